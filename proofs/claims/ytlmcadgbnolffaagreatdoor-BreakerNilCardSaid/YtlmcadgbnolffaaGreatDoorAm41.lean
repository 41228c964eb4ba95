/- The machine's soundness: functions without a body; what a run of the machine says of a call. -/
import Derived.Test.YtlmcadgbnolffaaGreatDoorAm40
import Derived.Lib.Bytealg
namespace Go.Proofs.YtlmcadgbnolffaaGreatDoor.Am
/-- counting bytes, looking for a byte -/
theorem cntB_ok (s : ByteArray) (c : Nat) (hc : c < 256) : ∀ (n i : Nat) (a : Nat), i + n = s.size →
    (Nat.rec (motive := fun _ => Nat → Nat → Nat) (fun _ a => a) (fun _ ih i a => sN (Bool.rec a (Nat.succ a) (Nat.beq ((Str.of s).byte i) c)) fun a' => ih (Nat.succ i) a') n i a : Nat) = a + (s.data.toList.drop i).count (UInt8.ofNat c)
  | 0, i, a, h => by
    have : s.data.toList.drop i = [] := List.drop_eq_nil_of_le (by have : s.data.toList.length = s.size := by simp
                                                                   omega)
    rw [this]; rfl
  | n + 1, i, a, h => by
    have hlt : i < s.data.toList.length := by have : s.data.toList.length = s.size := by simp
                                              omega
    show sN (Bool.rec a (Nat.succ a) (Nat.beq ((Str.of s).byte i) c)) (fun a' => Nat.rec (motive := fun _ => Nat → Nat → Nat) (fun _ a => a) (fun _ ih i a => sN (Bool.rec a (Nat.succ a) (Nat.beq ((Str.of s).byte i) c)) fun a' => ih (Nat.succ i) a') n (Nat.succ i) a') = _
    rw [sN_eq, cntB_ok s c hc n (i + 1) _ (by omega), List.drop_eq_getElem_cons hlt, List.count_cons, Str.byte_ok s i (by simpa using hlt)]
    have hb : (s.data.toList[i] == UInt8.ofNat c) = Nat.beq (s.data.toList[i]).toNat c := by
      rw [beq_dec, Bool.eq_iff_iff, beq_iff_eq, decide_eq_true_iff]
      constructor
      · intro e; rw [e, UInt8.toNat_ofNat']; exact Nat.mod_eq_of_lt (by omega)
      · intro e; rw [← e]; simp
    rw [hb]
    cases Nat.beq (s.data.toList[i]).toNat c
    · simp
    · simp; omega
theorem idxB_ok (s : ByteArray) (c : Nat) (hc : c < 256) : ∀ (n i : Nat), i + n = s.size →
    (Nat.rec (motive := fun _ => Nat → Int) (fun _ => .negSucc (nat_lit 0)) (fun _ ih i => Bool.rec (ih (Nat.succ i)) (.ofNat i) (Nat.beq ((Str.of s).byte i) c)) n i : Int) =
      if Lib.indexByte (s.data.toList.drop i) (UInt8.ofNat c) = -1 then -1 else Lib.indexByte (s.data.toList.drop i) (UInt8.ofNat c) + i
  | 0, i, h => by
    have : s.data.toList.drop i = [] := List.drop_eq_nil_of_le (by have : s.data.toList.length = s.size := by simp
                                                                   omega)
    rw [this]; rfl
  | n + 1, i, h => by
    have hlt : i < s.data.toList.length := by have : s.data.toList.length = s.size := by simp
                                              omega
    show (Bool.rec (Nat.rec (motive := fun _ => Nat → Int) (fun _ => .negSucc (nat_lit 0)) (fun _ ih i => Bool.rec (ih (Nat.succ i)) (.ofNat i) (Nat.beq ((Str.of s).byte i) c)) n (Nat.succ i)) (.ofNat i) (Nat.beq ((Str.of s).byte i) c) : Int) = _
    have ih := idxB_ok s c hc n (i + 1) (by omega)
    rw [List.drop_eq_getElem_cons hlt, Str.byte_ok s i (by simpa using hlt)]
    have hb : (s.data.toList[i] == UInt8.ofNat c) = Nat.beq (s.data.toList[i]).toNat c := by
      rw [beq_dec, Bool.eq_iff_iff, beq_iff_eq, decide_eq_true_iff]
      constructor
      · intro e; rw [e, UInt8.toNat_ofNat']; exact Nat.mod_eq_of_lt (by omega)
      · intro e; rw [← e]; simp
    have hge := Lib.indexByte_ge (s.data.toList.drop (i + 1)) (UInt8.ofNat c)
    unfold Lib.indexByte
    rw [hb]
    cases Nat.beq (s.data.toList[i]).toNat c
    · simp only [Bool.false_eq_true, if_false]
      refine Eq.trans ih ?_
      generalize Lib.indexByte (s.data.toList.drop (i + 1)) (UInt8.ofNat c) = z at hge
      by_cases hz : z = -1
      · subst hz; simp
      · have : (z == -1) = false := by simp [hz]
        rw [this]
        simp only [Bool.false_eq_true, if_false]
        rw [if_neg hz, if_neg (by omega)]
        omega
    · simp
/-- a function of the model's own -/
def ExtIs (P : Program) (f : Nat) (e : Array Value → Sem Value) : Prop :=
  ∃ fn, P.funcs[f]? = some fn ∧ (fn.name == "runtime.NumGoroutine") = false ∧ fn.body.isNone = true ∧ (Extern.findNext fn).isNone = true ∧ Extern.find fn = some e
theorem callFunc_ext {P : Program} {f : Nat} {e : Array Value → Sem Value} (h : ExtIs P f e) {vs : Array Value} {w w' : World} {v : Value} (he : (e vs).run P w = .ok v w') : (callFunc f vs).run P w = .ok (.value v) w' := by
  obtain ⟨fn, hf, hn, hb, h1, h2⟩ := h
  have h1 : Extern.findNext fn = none := by
    cases hx : Extern.findNext fn with
    | none => rfl
    | some _ => rw [hx] at h1; cases h1
  unfold callFunc
  simp only [Sem.run_bind, run_program, Result.andThen_ok, hf, hn, Bool.false_eq_true, if_false, hb, if_true, run_mark, h1, h2, he, Sem.run_pure]
theorem u8_toUInt8 (c : Nat) : (Int.toNat (c : Int)).toUInt8 = UInt8.ofNat c := rfl
theorem ext_ok {P : Program} {g : G} (h1 : ∀ f, g.ext f = 1 → ExtIs P f Extern.BytealgCount.count) (h2 : ∀ f, g.ext f = 2 → ExtIs P f Extern.BytealgIndexByte.indexByte) : ExtOk P g := by
  intro f args h v h' _ e ι w vs k hG ha
  unfold extA at e
  split at e
  · rename_i s c hx
    obtain ⟨x, xs, hv, hx1, hxs⟩ := VRs_cons ha
    obtain ⟨y, ys, rfl, hy1, hys⟩ := VRs_cons hxs
    cases VRs_nil hys
    obtain ⟨b, rfl, rfl⟩ := hx1
    cases hy1
    have hvs : vs = #[.string b, .int .u8 (c : Int)] := arr_of_toList hv
    subst hvs
    cases hc : Nat.ble c (nat_lit 255)
    · rw [hc] at e; cases e
    · rw [hc] at e
      rw [Nat.ble_eq] at hc
      cases e
      have hcn := cntB_ok b c (by have : c ≤ 255 := hc; omega) b.size 0 0 (by omega)
      refine .inl ⟨_, w, callFunc_ext (h1 f hx) (Lib.run_countString b c w), ι, [], ?_, k, Ext.refl _ _ _ k.fresh⟩
      rw [u8_toUInt8]
      have : cntB (Str.of b) c (Str.of b).len (nat_lit 0) = Lib.countByte b.data.toList (UInt8.ofNat c) := by
        rw [Str.of_len]
        refine Eq.trans hcn ?_
        rw [List.drop_zero, Nat.zero_add]; rfl
      rw [this]; rfl
  · rename_i s c hx
    obtain ⟨x, xs, hv, hx1, hxs⟩ := VRs_cons ha
    obtain ⟨y, ys, rfl, hy1, hys⟩ := VRs_cons hxs
    cases VRs_nil hys
    obtain ⟨b, rfl, rfl⟩ := hx1
    cases hy1
    have hvs : vs = #[.string b, .int .u8 (c : Int)] := arr_of_toList hv
    subst hvs
    cases hc : Nat.ble c (nat_lit 255)
    · rw [hc] at e; cases e
    · rw [hc] at e
      rw [Nat.ble_eq] at hc
      rw [frc_eq] at e
      cases e
      have hcn := idxB_ok b c (by have : c ≤ 255 := hc; omega) b.size 0 (by omega)
      refine .inl ⟨_, w, callFunc_ext (h2 f hx) (Lib.run_indexByteString b c w), ι, [], ?_, k, Ext.refl _ _ _ k.fresh⟩
      rw [u8_toUInt8]
      have : idxB (Str.of b) c (Str.of b).len (nat_lit 0) = Lib.indexByte b.data.toList (UInt8.ofNat c) := by
        rw [Str.of_len]
        refine Eq.trans hcn ?_
        rw [List.drop_zero]
        split <;> simp_all
      rw [this]; rfl
  · cases e
/-- WHAT A RUN SAYS: a call of a function with a body, at any world that is as the heap says. -/
theorem calls_of_run {P : Program} {g : G} (hg : GOk P g) (hmix : P.follows .mixedOrders = true) (hfn : FnsOk P g) (hext : ExtOk P g) {N f : Nat} {x : Fn} (hf : g.fn f = some x) {args v : AV} {h h' : H}
    (e : (run g (N + 1)).call f args h = .ok v h') {ι : Nam} {w : World} {vs : Array Value} (k : WR ι h w) (hG : GI ι) (ha : VRs ι args vs.toList) :
    Calls P f vs w fun o w' => ∃ v', o = .returned v' ∧ CR ι h w v h' v' w' := by
  have hdr := draw_ok hg hmix
  have ih := run_ok hg hdr hfn hext N N none
  obtain ⟨hx, _⟩ := hfn f x hf
  have e : (match g.fn f with
    | some fn => enter g ⟨(run g N).call, (run g N).yld, N, none⟩ fn args h
    | none => extA (g.ext f) args h) = .ok v h' := e
  rw [hf] at e
  intro cs
  obtain ⟨fr, v', w', hcr, hs, hl⟩ := enter_ok hg hdr ih rfl hf hx k hG ha e .normal cs (.inl rfl)
  obtain ⟨hm, hd, hk, hfr, fn, hfn', hr⟩ := hl
  exact ⟨.returned v', w', fr, ⟨v', rfl, hcr⟩, hs, hfr, hm, hd, hk, fn, by rw [hfr]; exact hfn', hr⟩
end Go.Proofs.YtlmcadgbnolffaaGreatDoor.Am
