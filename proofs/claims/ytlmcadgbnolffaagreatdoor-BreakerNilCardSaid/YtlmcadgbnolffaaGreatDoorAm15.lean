/- The machine's soundness: indices, slices, new slices. -/
import Derived.Test.YtlmcadgbnolffaaGreatDoorAm14
namespace Go.Proofs.YtlmcadgbnolffaaGreatDoor.Am
section
variable {P : Program} {g : G} {ι : Nam} {h h' : H} {w : World} {D : Nat → Prop}
theorem onN_inv {f : Nat → Res} {i v : AV} (e : onN f i = .ok v h') : ∃ kd n, i = .int kd (Int.ofNat n) ∧ f n = .ok v h' := by
  unfold onN at e
  cases hi : toI i with
  | none => rw [hi] at e; cases e
  | nn kd n => rw [hi] at e; exact ⟨kd, n, toI_nn hi, e⟩
  | ng kd n => rw [hi] at e; cases e
theorem idxS_ok (hg : GOk P g) (k : WR ι h w D) {t el : TypeId} {y ye : Ty} (ht : g.ty t = some y) (hd : y.desc = .slice el) (he : g.ty el = some ye) {x i v : AV} {vx vi : Value} (hx : VR ι x vx) (hi : VR ι i vi)
    (e : idxS ye.size x i h = .ok v h') : SimV P ι h w (Instr.indexAt t vx vi) v h' := by
  unfold idxS at e
  cases hl : toL x with
  | none => rw [hl] at e; cases e
  | nil => rw [hl] at e; cases e
  | «at» b off len es z =>
    rw [hl] at e
    obtain ⟨kd, n, ei, e1⟩ := onN_inv e; clear e; subst ei; have e := e1; clear e1
    obtain rfl := toL_at hl
    obtain ⟨m, ya, cap, hm, rfl, hcap, _, hy⟩ := hx
    cases hi
    cases hlt : Nat.ble (Nat.succ n) len
    · rw [hlt] at e; cases e
    · rw [hlt] at e
      cases e
      rw [Nat.ble_eq] at hlt
      have hlt : n < len := hlt
      obtain ⟨_, _, i', z', hi', hs', _⟩ := hg.ty _ _ he
      rcases hy with hy | ⟨hy, _⟩
      · omega
      · subst hy
        refine SimV.ret k (v' := .pointer (some ⟨m.B, m.sh + (off + n * ye.size), none⟩)) ?_ ⟨m, hm, rfl⟩
        have hb : (0 : Int) ≤ Int.ofNat n ∧ Int.ofNat n < (len : Int) := ⟨by simp, by simp; omega⟩
        simp only [Instr.indexAt, asIntOf, Sem.run_bind, Sem.run_pure, Result.andThen_ok, run_und (hg.ty _ _ ht).1, hd]
        rw [if_pos hb]
        simp only [Sem.run_bind, run_so hi', Result.andThen_ok, Sem.run_pure, addr_add, hs']
        simp [Nat.add_assoc]
theorem idxA_ok (hg : GOk P g) (k : WR ι h w D) {t el : TypeId} {len : Nat} {y ye : Ty} (ht : g.ty t = some y) (hd : y.desc = .array len el) (he : g.ty el = some ye) {x i v : AV} {vx vi : Value} (hx : VR ι x vx) (hi : VR ι i vi)
    (e : idxA len ye.size x i h = .ok v h') : SimV P ι h w (Instr.indexAt t vx vi) v h' := by
  unfold idxA at e
  cases hl : toP x with
  | none => rw [hl] at e; cases e
  | «at» b off =>
    rw [hl] at e
    obtain ⟨kd, n, ei, e1⟩ := onN_inv e; clear e; subst ei; have e := e1; clear e1
    obtain rfl := toP_at hl
    obtain ⟨m, hm, rfl⟩ := hx
    cases hi
    cases hlt : Nat.ble (Nat.succ n) len
    · rw [hlt] at e; cases e
    · rw [hlt] at e
      cases e
      rw [Nat.ble_eq] at hlt
      have hlt : n < len := hlt
      obtain ⟨_, _, i', z', hi', hs', _⟩ := hg.ty _ _ he
      refine SimV.ret k (v' := .pointer (some ⟨m.B, m.sh + (off + n * ye.size), none⟩)) ?_ ⟨m, hm, rfl⟩
      have hb : (0 : Int) ≤ Int.ofNat n ∧ Int.ofNat n < (len : Int) := ⟨by simp, by simp; omega⟩
      simp only [Instr.indexAt, asIntOf, Sem.run_bind, Sem.run_pure, Result.andThen_ok, run_und (hg.ty _ _ ht).1, hd, Instr.sureAddr]
      rw [if_pos hb]
      simp only [Sem.run_bind, run_so hi', Result.andThen_ok, Sem.run_pure, addr_add, hs']
      simp [Nat.add_assoc]
theorem ba_get (s : ByteArray) (n : Nat) (hn : n < s.size) : s[n]? = some (s.data.toList[n]'(by simpa using hn)) := by
  rw [ByteArray.getElem?_lt' s n hn]; rfl
theorem idxStr_ok (hg : GOk P g) (k : WR ι h w D) {t : TypeId} {y : Ty} (ht : g.ty t = some y) (hd : y.desc = .string) {x i v : AV} {vx vi : Value} (hx : VR ι x vx) (hi : VR ι i vi)
    (e : idxStr x i h = .ok v h') : SimV P ι h w (Instr.index t vx vi) v h' := by
  unfold idxStr at e
  cases hl : toS x with
  | none => rw [hl] at e; cases e
  | some s =>
    rw [hl] at e
    obtain ⟨kd, n, ei, e1⟩ := onN_inv e; clear e; subst ei; have e := e1; clear e1
    obtain rfl := toS_some hl
    obtain ⟨b, rfl, rfl⟩ := hx
    cases hi
    cases hlt : Nat.ble (Nat.succ n) (Str.of b).len
    · rw [hlt] at e; cases e
    · rw [hlt] at e
      simp only [sN_eq] at e
      cases e
      rw [Nat.ble_eq, Str.of_len] at hlt
      have hlt : n < b.size := hlt
      refine SimV.ret k (v' := .int .u8 (b.data.toList[n]'(by simpa using hlt)).toNat) ?_ (by rw [Str.byte_ok b n hlt]; rfl)
      simp only [Instr.index, asIntOf, Sem.run_bind, Sem.run_pure, Result.andThen_ok, run_und (hg.ty _ _ ht).1, hd]
      have : (0 : Int) ≤ Int.ofNat n := by simp
      rw [if_pos this]
      have e2 : (Int.ofNat n).toNat = n := rfl
      rw [e2, ba_get b n hlt]
      rfl
theorem indexA_ok (hg : GOk P g) (k : WR ι h w D) {t el : TypeId} {len : Nat} {y ye : Ty} (ht : g.ty t = some y) (hd : y.desc = .array len el) (he : g.ty el = some ye) {x i v : AV} {vx vi : Value} (hx : VR ι x vx) (hi : VR ι i vi)
    (e : indexA len ye.agg ye.size x i h = .ok v h') : SimV P ι h w (Instr.index t vx vi) v h' := by
  unfold indexA at e
  obtain ⟨kd, n, ei, e1⟩ := onN_inv e; clear e; subst ei; have e := e1; clear e1
  cases hi
  split at e
  · rename_i cs
    split at e
    · rename_i hlt
      rw [Nat.ble_eq] at hlt
      have hlt : n < len := hlt
      obtain ⟨xs, rfl, hxs⟩ := hx
      obtain ⟨ι', w', W, v', h1, h2⟩ := part_ok hg k he hxs e
      obtain ⟨_, _, i', z', hi', hs', _⟩ := hg.ty _ _ he
      refine ⟨ι', w', W, v', ?_, h2⟩
      have hb : (0 : Int) ≤ Int.ofNat n ∧ Int.ofNat n < (len : Int) := ⟨by simp, by simp; omega⟩
      simp only [Instr.index, asIntOf, Sem.run_bind, Sem.run_pure, Result.andThen_ok, run_und (hg.ty _ _ ht).1, hd]
      rw [if_pos hb]
      simp only [Sem.run_bind, run_so hi', Result.andThen_ok, hs']
      exact h1
    · cases e
  · cases e

/-! ### slices -/
theorem natOf_inv {f : Nat → Res} {i v : AV} (e : natOf .fail f i = .ok v h') : ∃ kd n, i = .int kd (Int.ofNat n) ∧ f n = .ok v h' := by
  unfold natOf at e
  split at e
  · exact ⟨_, _, rfl, e⟩
  · cases e
section
variable {n : Nat} {en : Env} {a : Go.Act}
theorem optN_inv (hE : EnvR ι n en a.tmps) (hG : GI ι) {x : Option Operand} (hx : (match x with | some o => opndOk n o | none => true) = true) {d : Nat} {f : Nat → Res} {v : AV} (e : optN en x d f = .ok v h') :
    ∃ m, f m = .ok v h' ∧ ((x = none ∧ m = d) ∨ ∃ o kd, x = some o ∧ a.eval o = .int kd (Int.ofNat m)) := by
  unfold optN at e
  split at e
  · exact ⟨d, e, .inl ⟨rfl, rfl⟩⟩
  · rename_i o
    obtain ⟨kd, m, ho, e⟩ := natOf_inv e
    have := ev_ok hE hG o hx
    rw [ho] at this
    exact ⟨m, e, .inr ⟨o, kd, rfl, this⟩⟩
end
theorem run_bound {kd : IntKind} {m y : Nat} (c : BoundsCode) (hm : m ≤ y) (w : World) : (Instr.sliceBound (.int kd (Int.ofNat m)) y c).run P w = .ok m w := by
  have hb : (0 : Int) ≤ Int.ofNat m ∧ Int.ofNat m ≤ (y : Int) := ⟨by simp, by simp; omega⟩
  simp only [Instr.sliceBound, asIntOf, Sem.run_bind, Sem.run_pure, Result.andThen_ok]
  rw [if_pos hb]
  rfl
/-- the bounds of a slice, when they are within -/
theorem run_bounds {ρ : Operand → Value} {isS : Bool} {len cap l u m : Nat} {lo hi mx : Option Operand}
    (hm : (mx = none ∧ m = cap) ∨ ∃ o kd, mx = some o ∧ ρ o = .int kd (Int.ofNat m))
    (hu : (hi = none ∧ u = len) ∨ ∃ o kd, hi = some o ∧ ρ o = .int kd (Int.ofNat u))
    (hl : (lo = none ∧ l = 0) ∨ ∃ o kd, lo = some o ∧ ρ o = .int kd (Int.ofNat l))
    (hmh : mx.isSome = true → hi.isSome = true) (h1 : l ≤ u) (h2 : u ≤ m) (h3 : m ≤ cap) (w : World) :
    (Instr.sliceBounds isS len cap (lo.map ρ) (hi.map ρ) (mx.map ρ)).run P w = .ok (l, u, m) w := by
  rcases hm with ⟨rfl, rfl⟩ | ⟨om, km, rfl, hm⟩ <;> rcases hu with ⟨rfl, rfl⟩ | ⟨ou, ku, rfl, hu⟩ <;> rcases hl with ⟨rfl, rfl⟩ | ⟨ol, kl, rfl, hl⟩ <;>
  first
    | (exfalso; simp at hmh; done)
    | (simp only [Instr.sliceBounds, Option.map_none, Option.map_some, Sem.run_bind, Sem.run_pure, Result.andThen_ok, *, run_bound _ h1, run_bound _ h2, run_bound _ h3])

section
variable {n : Nat} {en : Env} {a : Go.Act}
theorem slice_ok (hE : EnvR ι n en a.tmps) (hG : GI ι) (hg : GOk P g) (k : WR ι h w D) {t el : TypeId} {y ye : Ty} (ht : g.ty t = some y) (hd : y.desc = .slice el) (he : g.ty el = some ye) {x : Operand} {lo hi mx : Option Operand} {v : AV}
    (hx : opndOk n x = true) (hlo : (match lo with | some o => opndOk n o | none => true) = true) (hhi : (match hi with | some o => opndOk n o | none => true) = true) (hmx : (match mx with | some o => opndOk n o | none => true) = true)
    (hmh : okMx hi mx = true)
    (e : (sliceA ye.size (ev x) lo hi mx).f en h = .ok v h') : SimV P ι h w (Instr.sliceAt t (a.eval x) (lo.map a.eval) (hi.map a.eval) (mx.map a.eval)) v h' := by
  have hv := ev_ok hE hG x hx
  have hmh' : mx.isSome = true → hi.isSome = true := by
    cases mx <;> cases hi <;> simp_all [okMx]
  obtain ⟨_, _, i', z', hi', hs', _⟩ := hg.ty _ _ he
  have e : (match (ev x).f en with
    | .slice b off len es' z => optN en mx len fun m => optN en hi len fun u => optN en lo (nat_lit 0) fun l =>
        match Nat.ble l u, Nat.ble u m, Nat.ble m len, Nat.beq ye.size es' with
        | true, true, true, true => .ok (.slice b (Nat.add off (Nat.mul l ye.size)) (Nat.sub u l) ye.size (mxz mx z m l)) h
        | _, _, _, _ => .fail
    | .nils => optN en mx (nat_lit 0) fun m => optN en hi (nat_lit 0) fun u => optN en lo (nat_lit 0) fun l =>
        match Nat.add m (Nat.add u l) with
        | 0 => .ok .nils h
        | _ => .fail
    | _ => Res.fail) = .ok v h' := e
  generalize hxe : (ev x).f en = xa at e hv
  generalize hxv : a.eval x = xv at hv
  have hund := run_und (hg.ty _ _ ht).1
  rw [hd] at hund
  split at e
  · rename_i b off len es' z
    obtain ⟨m, e1, hm⟩ := optN_inv hE hG hmx e; clear e
    obtain ⟨u, e2, hu⟩ := optN_inv hE hG hhi e1; clear e1
    obtain ⟨l, e3, hl⟩ := optN_inv hE hG hlo e2; clear e2
    obtain ⟨mm, ya, cap, hmm, rfl, hcap, hz, hy⟩ := hv
    split at e3
    · rename_i h1 h2 h3 h4
      cases e3
      rw [Nat.ble_eq] at h1 h2 h3
      have h4 := Nat.eq_of_beq_eq_true h4
      subst h4
      -- the model's own bound of the capacity
      let m' := match mx with | none => cap | some _ => m
      have hm' : (mx = none ∧ m' = cap) ∨ ∃ o kd, mx = some o ∧ a.eval o = .int kd (Int.ofNat m') := by
        rcases hm with ⟨rfl, _⟩ | ⟨o, kd, rfl, ho⟩
        · exact .inl ⟨rfl, rfl⟩
        · exact .inr ⟨o, kd, rfl, ho⟩
      have hmc : u ≤ m' ∧ m' ≤ cap := by
        rcases hm with ⟨rfl, rfl⟩ | ⟨o, kd, rfl, ho⟩
        · exact ⟨by show u ≤ cap; omega, Nat.le_refl _⟩
        · exact ⟨h2, by show m ≤ cap; omega⟩
      have hrb := run_bounds (P := P) (isS := true) hm' hu hl hmh' h1 hmc.1 hmc.2 w
      refine SimV.ret k (v' := .slice (if m' = l then some ya else (some ya).map (·.add (l * ye.size))) (u - l) (m' - l)) ?_ ?_
      · simp only [Instr.sliceAt, Sem.run_bind, hund, Result.andThen_ok, Instr.slice, hrb, run_so hi', hs', Sem.run_pure]
      · refine ⟨mm, (if m' = l then ya else ya.add (l * ye.size)), m' - l, hmm, by split <;> rfl, (by have := hmc.1; show u - l ≤ m' - l; omega), ?_, ?_⟩
        · intro hz'
          rcases hm with ⟨rfl, rfl⟩ | ⟨o, kd, rfl, ho⟩
          · have := hz hz'
            show cap - l = 0
            omega
          · have := Nat.eq_of_beq_eq_true hz'
            show m - l = 0
            omega
        · rcases hy with hy | ⟨hy, hb⟩
          · left; omega
          · by_cases hml : m' = l
            · left; omega
            · right
              rw [if_neg hml, hy, addr_add]
              refine ⟨by rw [Nat.add_assoc]; rfl, ?_⟩
              have h5 : l * ye.size + (m' - l) * ye.size ≤ cap * ye.size := by
                rw [← Nat.add_mul]; exact Nat.mul_le_mul_right _ (by omega)
              show mm.sh + (off + l * ye.size) + (m' - l) * ye.size ≤ mm.cs
              omega
    · cases e3
  · obtain ⟨m, e1, hm⟩ := optN_inv hE hG hmx e; clear e
    obtain ⟨u, e2, hu⟩ := optN_inv hE hG hhi e1; clear e1
    obtain ⟨l, e3, hl⟩ := optN_inv hE hG hlo e2; clear e2
    split at e3
    · rename_i h0
      cases e3
      have h0 : m + (u + l) = 0 := h0
      have ea : m = 0 := by omega
      have eb : u = 0 := by omega
      have ec : l = 0 := by omega
      subst ea; subst eb; subst ec
      cases hv
      have hrb := run_bounds (P := P) (isS := true) hm hu hl hmh' (Nat.le_refl _) (Nat.le_refl _) (Nat.le_refl _) w
      refine SimV.ret k (v' := .slice none 0 0) ?_ rfl
      simp only [Instr.sliceAt, Sem.run_bind, hund, Result.andThen_ok, Instr.slice, hrb, run_so hi', hs', Sem.run_pure]
      rfl
    · cases e3
  · cases e
end
end
end Go.Proofs.YtlmcadgbnolffaaGreatDoor.Am
