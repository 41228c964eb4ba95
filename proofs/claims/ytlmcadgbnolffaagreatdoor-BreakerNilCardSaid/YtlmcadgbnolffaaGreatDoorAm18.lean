/- The machine's soundness: small operations. -/
import Derived.Test.YtlmcadgbnolffaaGreatDoorAm17
namespace Go.Proofs.YtlmcadgbnolffaaGreatDoor.Am
open MapKept
section
variable {P : Program} {g : G} {ι : Nam} {h h' : H} {w : World} {D : Nat → Prop}
theorem run_newObj' (o : Obj) (w : World) : (newObj o).run P w = .ok w.heap.size (World.grown w w.drawn o) := rfl
theorem makeMap_new (k : WR ι h w D) (hg : GOk P g) {t : TypeId} {v : AV} (e : makeMapA (mapKind g t) h = .ok v h') (r : Option Value) (hr : ∀ x, r = some x → ∃ kd n, x = .int kd n) :
    SimV P ι h w (Instr.makeMap t r) v h' := by
  have hmk := mapKind_ok hg t
  generalize mapKind g t = mk at e hmk
  have hrun : ∀ kt et, P.underlying t = some (.map kt et) → (Instr.makeMap t r).run P w = .ok (.map (some w.heap.size)) (World.grown w w.drawn (.map #[] 0)) := by
    intro kt et hu
    cases r with
    | none => simp only [Instr.makeMap, Sem.run_bind, Sem.run_pure, Result.andThen_ok, run_newObj']
    | some x =>
      obtain ⟨kd, n, rfl⟩ := hr x rfl
      simp only [Instr.makeMap, Sem.run_bind, Sem.run_pure, Result.andThen_ok, run_newObj', run_und hu, asInt, asIntOf]
  unfold makeMapA at e
  split at e
  · rename_i kd hroom
    obtain ⟨kt, et, hu, _⟩ := hmk
    cases e
    refine ⟨_, _, [], _, hrun kt et hu, ⟨⟨w.heap.size, 0, 0⟩, Nam.add_same _ _ _, rfl⟩, Loc.mkNew k (H.room_iff.1 hroom) _ ⟨w.heap.size, 0, 0⟩ (.map #[] 0) (by simp [World.grown]) grown_old (Nat.le_refl _) grown_new ?_ rfl rfl rfl⟩
    refine ⟨#[], rfl, rfl, rfl, by simp, fun i _ => ?_⟩
    rw [E.get_rep]
    exact rfl
  · rename_i hroom
    obtain ⟨kt, et, hu, _⟩ := hmk
    cases e
    refine ⟨_, _, [], _, hrun kt et hu, ⟨⟨w.heap.size, 0, 0⟩, Nam.add_same _ _ _, rfl⟩, Loc.mkNew k (H.room_iff.1 hroom) _ ⟨w.heap.size, 0, 0⟩ (.map #[] 0) (by simp [World.grown]) grown_old (Nat.le_refl _) grown_new ?_ rfl rfl rfl⟩
    exact ⟨#[], rfl, rfl, rfl, by simp, fun s => rfl⟩
  · cases e
theorem range_ok (k : WR ι h w D) (hg : GOk P g) {t : TypeId} {y : Ty} (ht : g.ty t = some y) (hd : y.desc = .string) {x v : AV} {vx : Value} (hx : VR ι x vx) (e : rangeA x h = .ok v h') : SimV P ι h w (Instr.range t vx) v h' := by
  have hut := (hg.ty _ _ ht).1
  rw [hd] at hut
  unfold rangeA at e
  split at e
  · obtain ⟨b, rfl, rfl⟩ := hx
    split at e
    · rename_i hroom
      cases e
      refine ⟨_, _, [], .pointer (some ⟨w.heap.size, 0, none⟩), ?_, ptr_new (m := ⟨w.heap.size, 0, 0⟩) rfl, Loc.mkNew k (H.room_iff.1 hroom) _ ⟨w.heap.size, 0, 0⟩ (.stringIter b 0) (by simp [World.grown]) grown_old (Nat.le_refl _) (grown_new (n := w.drawn)) ⟨rfl, b, rfl, rfl⟩ rfl rfl rfl⟩
      simp only [Instr.range, Sem.run_bind, run_und hut, Result.andThen_ok, Sem.run_pure, run_newObj']
    · cases e
  · cases e
theorem lnth_bad {ι : Nam} : ∀ (a : AV) (l : List Value), VRs ι a l → ∀ o, l.length ≤ o → lnth a o = .bad :=
  VRs_ind (fun _ _ => rfl) (fun a t x xs _ _ ih o ho => by
    cases o with
    | zero => simp at ho
    | succ o => exact ih o (by simpa using ho))
theorem extract_ok (k : WR ι h w D) {x v : AV} {vx : Value} {i : Nat} (hx : VR ι x vx) (e : chk (extractA x i) h = .ok v h') : SimV P ι h w (Instr.extract vx i) v h' := by
  obtain ⟨e1, e2, hv⟩ := chk_ok e
  subst e2
  have hv' := hv
  rw [← e1] at hv'
  unfold extractA at e1
  split at e1
  · obtain ⟨xs, rfl, hxs⟩ := hx
    have hlt : i < xs.size := by
      rcases Nat.lt_or_ge i xs.size with c | c
      · exact c
      · exact absurd (lnth_bad _ _ hxs i (by simpa using c)) hv
    refine SimV.ret k (v' := xs.toList.getD i undef) ?_ (by rw [e1]; exact lnth_ok hxs i)
    simp only [Instr.extract, Array.getElem?_eq_getElem hlt, Sem.run_pure]
    simp [hlt]
  · exact absurd e1 hv'
theorem makeIface_ok (k : WR ι h w D) (hg : GOk P g) {t : TypeId} {y : Ty} (ht : g.ty t = some y) (hd : ∀ ms, y.desc ≠ .interface ms) {x : AV} {vx : Value} (hx : VR ι x vx) : SimV P ι h w (Instr.makeInterface t vx) (.ifc t x) h := by
  refine SimV.ret k (v' := .iface t vx) ?_ ⟨vx, rfl, hx⟩
  simp only [Instr.makeInterface, Sem.run_bind, run_und (hg.ty _ _ ht).1, Result.andThen_ok]
  rfl
theorem makeFunc_ok (k : WR ι h w D) {f : FuncId} {x y : AV} {xs ys : Array Value} (hx : VRs ι x xs.toList) (hy : VRs ι y ys.toList) : SimV P ι h w (Instr.makeFunc (.func f) xs ys) (.fn f x y) h :=
  SimV.ret k (v' := .func (.func f) xs ys) rfl ⟨xs, ys, rfl, hx, hy⟩
theorem len_ok (k : WR ι h w D) (hg : GOk P g) {t ty : TypeId} {y : Ty} (ht : g.ty t = some y) {x v : AV} {vx : Value} {ts : Array TypeId} (hts : ts[0]? = some t) (hx : VR ι x vx) (hD : ∀ b ∈ blkOf x, D b) (e : lenA y.desc x h = .ok v h') :
    SimV P ι h w (Builtin.len_ ts ty #[vx]) v h' := by
  have hut := (hg.ty _ _ ht).1
  have hx0 : (#[vx] : Array Value)[0]? = some vx := rfl
  unfold lenA at e
  split at e
  · rename_i hd; rw [hd] at hut
    split at e
    · obtain ⟨b, rfl, rfl⟩ := hx
      rw [sN_eq] at e
      cases e
      refine SimV.ret k (v' := goInt b.size) ?_ (by rw [Str.of_len]; rfl)
      simp only [Builtin.len_, hts, hx0, Sem.run_bind, run_und hut, Result.andThen_ok, Sem.run_pure]
    · cases e
  · rename_i hd; rw [hd] at hut
    split at e
    · obtain ⟨m, ya, cap, _, rfl, _⟩ := hx
      rw [sN_eq] at e
      cases e
      refine SimV.ret k (v' := goInt _) ?_ rfl
      simp only [Builtin.len_, hts, hx0, Sem.run_bind, run_und hut, Result.andThen_ok, Sem.run_pure]
      rfl
    · cases hx
      cases e
      refine SimV.ret k (v' := goInt 0) ?_ rfl
      simp only [Builtin.len_, hts, hx0, Sem.run_bind, run_und hut, Result.andThen_ok, Sem.run_pure]
      rfl
    · cases e
  · rename_i hd; rw [hd] at hut
    split at e
    · cases hx
      cases e
      refine SimV.ret k (v' := goInt 0) ?_ rfl
      simp only [Builtin.len_, hts, hx0, Sem.run_bind, run_und hut, Result.andThen_ok, Sem.run_pure]
    · rename_i b
      obtain ⟨m, hm, rfl⟩ := hx
      split at e
      · rename_i hb
        obtain ⟨o, ho, hbr⟩ := k.map (hD b (by simp [blkOf])) hm hb
        obtain ⟨es, rfl, hsz, _⟩ := hbr
        cases e
        refine SimV.ret k (v' := goInt es.size) ?_ (by rw [hsz]; rfl)
        simp only [Builtin.len_, hts, hx0, Sem.run_bind, run_und hut, Result.andThen_ok, Sem.run_pure, run_getObj_map ho]
      · rename_i hb
        obtain ⟨o, ho, hbr⟩ := k.map (hD b (by simp [blkOf])) hm hb
        obtain ⟨es, rfl, hsz, _⟩ := hbr
        cases e
        refine SimV.ret k (v' := goInt es.size) ?_ (by rw [hsz]; rfl)
        simp only [Builtin.len_, hts, hx0, Sem.run_bind, run_und hut, Result.andThen_ok, Sem.run_pure, run_getObj_map ho]
      · cases e
    · cases e
  · cases e
end
end Go.Proofs.YtlmcadgbnolffaaGreatDoor.Am
