/- SearchPieces, from its text on: true, where the walk of live is given. -/
import Derived.Test.YtfmnninijakknaaGreatDoorSD
import Derived.Lib.AppendStr
import Derived.Lib.ConvBytes
import Derived.Test.YtfmnninijakknaaGreatDoorSB
namespace Go.Proofs.YtfmnninijakknaaGreatDoor.searchPieces
section
open Pieces (bt width full)
/-! ### the plain law, as the walk asks for it -/
theorem every_mem {t w : List UInt8} (ht : t ≠ []) : ∀ p ∈ Pieces.every t (Pieces.places width w (w.length + 1) 0), p.1 ≤ w.length := by
  intro p hp
  rw [Pieces.every_upto Pieces.width_good ht] at hp
  obtain ⟨f, hf, rfl⟩ := List.mem_map.1 hp
  unfold Pieces.upto at hf
  have := List.mem_range.1 (List.mem_filter.1 hf).1
  show f ≤ w.length
  omega
theorem every_len {t w : List UInt8} (ht : t ≠ []) : (Pieces.every t (Pieces.places width w (w.length + 1) 0)).length ≤ w.length + 1 := by
  rw [Pieces.every_upto Pieces.width_good ht, List.length_map]
  unfold Pieces.upto
  exact Nat.le_trans (List.length_filter_le _ _) (by rw [List.length_range]; exact Nat.le_refl _)
theorem keep_told {t w : List UInt8} (ht : t ≠ []) (c done : Nat) (hc : c ≤ w.length) : keep done (c : Int) (Pieces.every t (Pieces.places width w (w.length + 1) 0)) = Pieces.told width t w c done := by
  classical
  rw [Pieces.every_upto Pieces.width_good ht]
  unfold keep Pieces.told Pieces.upto
  rw [List.filter_map, List.map_map]
  rw [show ((fun p : Nat × Nat => p.1) ∘ fun f => (f, f + t.length)) = id from rfl, List.map_id, List.filter_filter]
  refine List.filter_congr fun f _ => ?_
  rw [Bool.eq_iff_iff, Bool.and_eq_true, decide_eq_true_iff, decide_eq_true_iff]
  simp only [Function.comp_apply, decide_eq_true_iff]
  constructor
  · rintro ⟨⟨h1, h2⟩, h3, h4⟩
    exact ⟨h3, by omega, h1⟩
  · rintro ⟨h1, h2, h3⟩
    exact ⟨⟨h3, by omega⟩, h1, by omega⟩
noncomputable def st (t : List UInt8) (ps : List (List UInt8)) (k : Nat) : Pieces.Fin := (ps.take k).foldl (Pieces.Fin.write t) ⟨[], [], 0, []⟩
theorem st_zero (t : List UInt8) (ps : List (List UInt8)) : st t ps 0 = ⟨[], [], 0, []⟩ := rfl
theorem st_succ {t : List UInt8} {ps : List (List UInt8)} {k : Nat} {p : List UInt8} (h : ps[k]? = some p) : st t ps (k + 1) = (st t ps k).write t p := by
  obtain ⟨hk, rfl⟩ := List.getElem?_eq_some_iff.1 h
  unfold st
  rw [List.take_succ_eq_append_getElem hk, List.foldl_append]
  rfl
theorem st_ok {t : List UInt8} (ht : t ≠ []) (ps : List (List UInt8)) : ∀ k, Pieces.Ok t (st t ps k)
  | 0 => Pieces.Ok.new ht
  | k + 1 => by
    rcases Nat.lt_or_ge k ps.length with c | c
    · rw [st_succ (List.getElem?_eq_getElem c)]
      exact (st_ok ht ps k).write _
    · have : st t ps (k + 1) = st t ps k := by
        unfold st
        rw [List.take_of_length_le (by omega), List.take_of_length_le c]
      rw [this]
      exact st_ok ht ps k
theorem st_w (t : List UInt8) (ps : List (List UInt8)) : ∀ k, (st t ps k).w = (ps.take k).flatten
  | 0 => rfl
  | k + 1 => by
    rcases Nat.lt_or_ge k ps.length with c | c
    · rw [st_succ (List.getElem?_eq_getElem c), List.take_succ_eq_append_getElem c, List.flatten_append, ← st_w t ps k]
      simp [Pieces.Fin.write]
    · have : st t ps (k + 1) = st t ps k := by
        unfold st
        rw [List.take_of_length_le (by omega), List.take_of_length_le c]
      rw [this, List.take_of_length_le (by omega), st_w t ps k, List.take_of_length_le c]
theorem st_end {t : List UInt8} (ht : t ≠ []) (ps : List (List UInt8)) (n : Nat) : (st t ps n).got ++ Pieces.told width t (st t ps n).w (st t ps n).w.length (st t ps n).done = Pieces.upto width t (st t ps n).w (st t ps n).w.length :=
  (st_ok ht ps n).inv.close
theorem st_held {t : List UInt8} (ht : t ≠ []) (ps : List (List UInt8)) (k : Nat) : (st t ps k).held.length ≤ (st t ps k).w.length := by
  have h := (st_ok ht ps k).held
  rw [← h, List.length_drop]
  exact Nat.sub_le _ _
theorem st_done {t : List UInt8} (ht : t ≠ []) (ps : List (List UInt8)) (k : Nat) : (st t ps k).done ≤ (st t ps k).w.length + 1 := by
  rcases (st_ok ht ps k).inv.low with h | h
  · omega
  · omega
theorem st_got {t : List UInt8} (ht : t ≠ []) (ps : List (List UInt8)) (k : Nat) : (st t ps k).got.length ≤ (st t ps k).w.length + 1 := by
  rw [(st_ok ht ps k).inv.got]
  unfold Pieces.upto
  exact Nat.le_trans (List.length_filter_le _ _) (by rw [List.length_range]; exact Nat.le_refl _)
end
section
open Go.Shelf Go.RowKit Go.Lib
open Pieces (bt width full)
/-! ### append of a text to bytes: where the new row lies -/
theorem strCells_l (l : List UInt8) : strCells ⟨l.toArray⟩ = bytesV l := by simp [strCells, bytesV]
theorem run_app_str (w : World) (base : Nat) (ty : TypeId) (i : TypeInfo) (hi : Tryz.prog.info? 5 = some i) (hz : i.zero = some (.int .u8 0)) (hsize : i.size = 1) (hby : i.bytes = 1)
    (v : Value) (n : Nat) (xs : List Value) (hown : w.ownsRow base 5 1 v n xs) (l : List UInt8) (m : Nat) (hm : l.length = m) (h63 : n + m ≤ 4000000) (hbase : base ≤ w.heap.size) :
    ∃ v' w', (Builtin.append_ #[31, 9] ty #[v, .string ⟨l.toArray⟩]).run Tryz.prog w = .ok v' w' ∧ w'.ownsRow base 5 1 v' (n + m) (xs ++ bytesV l) ∧ w.grownBy w' v.ownBlock ∧ (v'.ownBlock = v.ownBlock ∨ v'.ownBlock = some w.heap.size) := by
  have hs : (⟨l.toArray⟩ : ByteArray).size = m := by rw [size_mk l _ rfl, hm]
  obtain ⟨v', w', hr, h2, h3, _⟩ := run_append_own_string (P := Tryz.prog) w base 31 9 ty 5 i Tryz.underlying31 Tryz.underlying9 hi hz hsize hby v n xs hown ⟨l.toArray⟩ (by rw [hs]; simp only [maxLen]; omega) (by rw [hs]; omega) hbase
  rw [hs, strCells_l] at h2
  refine ⟨v', w', hr, h2, h3, ?_⟩
  rcases hown.2 with ⟨rfl, rfl⟩ | ⟨g, cap, cur, rfl, hbg, hg, hnc, hcm, hcs, htake⟩
  · rcases Nat.eq_zero_or_pos m with h0 | h0
    · rcases h2.2 with ⟨rfl, _⟩ | ⟨g', cap', cur', rfl, hbg', hg', _⟩
      · exact .inl rfl
      · subst h0
        obtain rfl : l = [] := List.eq_nil_of_length_eq_zero hm
        have hf := run_firstCells_string (P := Tryz.prog) w 1 ⟨([] : List UInt8).toArray⟩
        have h9 : (Builtin.append_ #[31, 9] ty #[.slice none 0 0, .string ⟨([] : List UInt8).toArray⟩]).run Tryz.prog w = .ok (.slice none 0 0) w := by
          rw [hs] at hf
          simp [Builtin.append_, run_underlying Tryz.underlying31, run_underlying Tryz.underlying9, sizeOf, typeInfo, hi, hsize, Builtin.lenOf, hs, hf]
          try rfl
        rw [hr] at h9
        injection h9 with h9 _
        cases h9
    · have h9 := run_append_nil_string (P := Tryz.prog) w 31 9 ty 5 i (.int .u8 0) Tryz.underlying31 Tryz.underlying9 hi hz ⟨l.toArray⟩ (by rw [hs]; exact h0) (by rw [hs]; omega) (by rw [hs, hby]; omega)
      rw [hr] at h9
      injection h9 with h9 _
      rw [h9]
      exact .inr rfl
  · by_cases hroom : n + m ≤ cap
    · have hcs' : cur.size = cap := by simpa using hcs
      have h9 := run_append_room_string (P := Tryz.prog) w 31 9 ty 5 i Tryz.underlying31 Tryz.underlying9 hi hsize g n cap cur hg ⟨l.toArray⟩ (by rw [hs]; exact hroom) (by rw [hs]; omega)
      rw [hr] at h9
      injection h9 with h9 _
      rw [h9]
      exact .inl rfl
    · have hxl : xs.length = n := by simpa using hown.1
      have h9 := run_append_grow_string (P := Tryz.prog) w 31 9 ty 5 i (.int .u8 0) Tryz.underlying31 Tryz.underlying9 hi hz ⟨g, 0, none⟩ n cap xs (by rw [hsize]; simpa using hxl) (World.ownsRow.cells (g := g) ⟨hown.1, .inr ⟨g, cap, cur, rfl, hbg, hg, hnc, hcm, hcs, htake⟩⟩ rfl) ⟨l.toArray⟩ (by rw [hs]; omega) (by rw [hs]; omega) (by rw [hby, hs]; exact growslice_fits (by omega) (by omega))
      rw [hr] at h9
      injection h9 with h9 _
      rw [h9]
      exact .inr rfl
theorem wpList_app_str (w : World) {ops : Array Oper} {rest : List Oper} {o : Oper} {a : Act} {Q : Exit → Act → World → Prop} (hgd : o.guard = none) (sl x : Operand)
    (ho : o.op = .call { callee := .builtin .append, args := #[sl, x], argTypes := #[31, 9] })
    (base : Nat) (i : TypeInfo) (hi : Tryz.prog.info? 5 = some i) (hz : i.zero = some (.int .u8 0)) (hsize : i.size = 1) (hby : i.bytes = 1)
    (v : Value) (n : Nat) (xs : List Value) (hs : a.eval sl = v) (hown : w.ownsRow base 5 1 v n xs) (l : List UInt8) (m : Nat) (hx : a.eval x = .string ⟨l.toArray⟩) (hm : l.length = m) (h63 : n + m ≤ 4000000) (hbase : base ≤ w.heap.size)
    (h : ∀ v' w', w'.ownsRow base 5 1 v' (n + m) (xs ++ bytesV l) → w.grownBy w' v.ownBlock → (v'.ownBlock = v.ownBlock ∨ v'.ownBlock = some w.heap.size) → wpList Tryz.prog ops Q rest (a.put o.dst v') w') : wpList Tryz.prog ops Q (o :: rest) a w := by
  refine wpList_plain hgd fun K hK => ?_
  obtain ⟨v', w', hr, h2, h3, h4⟩ := run_app_str w base o.type i hi hz hsize hby v n xs hown l m hm h63 hbase
  unfold Oper.wp execOp
  simp only [ho, resolve, invoke, builtin, Sem.run_bind, Sem.run_pure, Result.andThen_ok, List.map_toArray, List.map_cons, List.map_nil, hs, hx, hr]
  exact hK _ _ (h v' w' h2 h3 h4)
theorem bytes_below (w : World) (s : ByteArray) : Below w.heap.size w (bytesWorld w 5 s) :=
  ⟨rfl, rfl, rfl, by rw [bytesWorld_size]; omega, fun k hk => bytesWorld_at_old w 5 s k hk⟩
theorem bytes_br (w : World) (l : List UInt8) (m : Nat) (hm : l.length = m) : BR (bytesWorld w 5 ⟨l.toArray⟩) (bytesWorld w 5 ⟨l.toArray⟩).heap.size (some ⟨w.heap.size, 0, none⟩) m l := by
  refine ⟨hm, fun _ => ⟨w.heap.size, 0, rfl, by rw [bytesWorld_size]; omega, fun j hj => ?_⟩⟩
  rw [Nat.zero_add, bytesWorld_cell w 5 ⟨l.toArray⟩ j (by rw [size_mk l _ rfl]; omega)]
  simp [bt]
/-! ### the law's loop -/
structure LJ (W : World) (t : List UInt8) (xb sb : Nat) (tx held : List UInt8) (done : Nat) (got : List Nat) (b : List UInt8) (vg vb : Value) (w : World) : Prop where
  bel : Below W.heap.size W w
  x2 : W.heap.size ≤ xb
  s2 : W.heap.size ≤ sb
  fi : Fi w xb sb t tx done
  got : w.ownsRow W.heap.size 3 1 vg got.length (intsV got)
  b : w.ownsRow W.heap.size 5 1 vb b.length (bytesV b)
  sc : ∃ hv fed, Sc w sb hv fed held W.heap.size ∧ ∀ g, vb.ownBlock = some g → hv.ownBlock ≠ some g
theorem own_ne_blk {w : World} {base : Nat} {e t : TypeId} {size n : Nat} {v : Value} {xs : List Value} {g : Nat} {cs : Array Value} {fr : Nat × Nat} (h : w.ownsRow base e size v n xs) (hg : w.heap[g]? = some (.cells cs t fr)) (hne : e ≠ t) : ∀ k, v.ownBlock = some k → k ≠ g := fun k hk => by
  obtain ⟨_, _, cur, hcur⟩ := own_lt h hk
  exact blk_ty hcur hg hne
theorem own_ne_own {w : World} {base base' : Nat} {e e' : TypeId} {size size' n n' : Nat} {v v' : Value} {xs xs' : List Value} (h : w.ownsRow base e size v n xs) (h' : w.ownsRow base' e' size' v' n' xs') (hne : e ≠ e') : ∀ k, v.ownBlock = some k → v'.ownBlock ≠ some k := fun k hk c => by
  obtain ⟨_, _, cur, hcur⟩ := own_lt h hk
  obtain ⟨_, _, cur', hcur'⟩ := own_lt h' c
  rw [hcur] at hcur'
  injection hcur' with hcur'; injection hcur' with _ ht
  exact hne ht
theorem LJ.below {W : World} {t : List UInt8} {xb sb : Nat} {tx held : List UInt8} {done : Nat} {got : List Nat} {b : List UInt8} {vg vb : Value} {w w1 : World} (h : LJ W t xb sb tx held done got b vg vb w) (hb : Below w.heap.size w w1) : LJ W t xb sb tx held done got b vg vb w1 := by
  have hf : Fr (fun _ => False) w w1 := Fr.of_below hb (Nat.le_refl _)
  obtain ⟨hv, fed, hS, hne⟩ := h.sc
  exact ⟨h.bel.trans (hb.mono h.bel.size), h.x2, h.s2, ⟨hf.blk h.fi.blk id⟩, hf.own h.got (fun _ _ => id), hf.own h.b (fun _ _ => id), hv, fed, hS.fr hf id (fun _ _ => id), hne⟩
theorem below_fr {W w w1 : World} {T : Nat → Prop} (h : Below W.heap.size W w) (hf : Fr T w w1) (hT : ∀ k, T k → W.heap.size ≤ k) : Below W.heap.size W w1 :=
  ⟨hf.os.trans h.os, hf.tape.trans h.tape, hf.output.trans h.output, Nat.le_trans h.size hf.size, fun k hk => (hf.block k (Nat.lt_of_lt_of_le hk h.size) (fun c => by have := hT k c; omega)).trans (h.block k hk)⟩
theorem LJ.write {W : World} {t : List UInt8} {xb sb : Nat} {tx held tx' held' : List UInt8} {done : Nat} {got out : List Nat} {b : List UInt8} {vg vb hv : Value} {fed : Int} {w w1 : World} {e : Ending} (h : LJ W t xb sb tx held done got b vg vb w) (hS : Sc w sb hv fed held W.heap.size) (hne : ∀ g, vb.ownBlock = some g → hv.ownBlock ≠ some g)
    (hp : WrPost xb sb hv t tx' held' done out w e w1) : LJ W t xb sb tx' held' (Pieces.next out done) got b vg vb w1 := by
  have hf := hp.fr
  obtain ⟨hv', fed', hS'⟩ := hp.sc
  refine ⟨below_fr h.bel hf ?_, h.x2, h.s2, hp.fi, hf.own h.got ?_, hf.own h.b ?_, hv', fed', ⟨hS'.blk, own_base hS'.own fun g hg => Nat.le_trans h.bel.size (own_lt hS'.own hg).1⟩, ?_⟩
  · rintro k (rfl | rfl | hk)
    · exact h.x2
    · exact h.s2
    · exact (own_lt hS.own hk).1
  · rintro g hg (c | c | c)
    · exact own_ne_blk h.got h.fi.blk (by decide) g hg c
    · exact own_ne_blk h.got hS.blk (by decide) g hg c
    · exact own_ne_own h.got hS.own (by decide) g hg c
  · rintro g hg (c | c | c)
    · exact own_ne_blk h.b h.fi.blk (by decide) g hg c
    · exact own_ne_blk h.b hS.blk (by decide) g hg c
    · exact hne g hg c
  · intro g hg c
    have := (own_lt hS'.own c).1
    have := (own_lt h.b hg).2.1
    omega
theorem LJ.app_got {W : World} {t : List UInt8} {xb sb : Nat} {tx held : List UInt8} {done : Nat} {got got' : List Nat} {b : List UInt8} {vg vb v' : Value} {w w1 : World} (h : LJ W t xb sb tx held done got b vg vb w) (hg : w.grownBy w1 vg.ownBlock) (hown : w1.ownsRow W.heap.size 3 1 v' got'.length (intsV got')) :
    LJ W t xb sb tx held done got' b v' vb w1 := by
  have hf : Fr (fun k => vg.ownBlock = some k) w w1 := Fr.grown hg (fun _ h _ => h)
  obtain ⟨hv, fed, hS, hne⟩ := h.sc
  refine ⟨below_fr h.bel hf (fun k hk => (own_lt h.got hk).1), h.x2, h.s2, ⟨hf.blk h.fi.blk (fun c => own_ne_blk h.got h.fi.blk (by decide) xb c rfl)⟩, hown, hf.own h.b (fun g hb c => own_ne_own h.got h.b (by decide) g c hb), hv, fed, hS.fr hf (fun c => own_ne_blk h.got hS.blk (by decide) sb c rfl) (fun g hh c => own_ne_own h.got hS.own (by decide) g c hh), hne⟩
theorem LJ.app_b {W : World} {t : List UInt8} {xb sb : Nat} {tx held : List UInt8} {done : Nat} {got : List Nat} {b b' : List UInt8} {vg vb v' : Value} {w w1 : World} (h : LJ W t xb sb tx held done got b vg vb w) (hg : w.grownBy w1 vb.ownBlock) (hown : w1.ownsRow W.heap.size 5 1 v' b'.length (bytesV b')) (hat : v'.ownBlock = vb.ownBlock ∨ v'.ownBlock = some w.heap.size) :
    LJ W t xb sb tx held done got b' vg v' w1 := by
  have hf : Fr (fun k => vb.ownBlock = some k) w w1 := Fr.grown hg (fun _ h _ => h)
  obtain ⟨hv, fed, hS, hne⟩ := h.sc
  refine ⟨below_fr h.bel hf (fun k hk => (own_lt h.b hk).1), h.x2, h.s2, ⟨hf.blk h.fi.blk (fun c => own_ne_blk h.b h.fi.blk (by decide) xb c rfl)⟩, hf.own h.got (fun g hh c => own_ne_own h.got h.b (by decide) g hh c), hown, hv, fed, hS.fr hf (fun c => own_ne_blk h.b hS.blk (by decide) sb c rfl) (fun g hh c => hne g c hh), ?_⟩
  intro g hv' c
  rcases hat with e | e
  · rw [e] at hv'; exact hne g hv' c
  · rw [e] at hv'
    have := (own_lt hS.own c).2.1
    injection hv' with hv'
    omega
end
section
open Go.Shelf Go.RowKit Go.Lib
open Pieces (bt width full)
theorem long_zero (LA : Option Addr) (c : Nat) (w : World) : Calls Tryz.prog 4 #[.slice LA 0 c] w fun e w' => e = .returned (.bool false) ∧ w' = w := by
  go_enter Tryz.func4, Tryz.ntmps4
  go_wp2
  go_loop [3, 4] (fun t i => i = .int .i64 0 ∧ t = .int .i64 0) (fun _ _ => 0)
  case atStart => exact ⟨rfl, rfl⟩
  case round =>
    obtain ⟨rfl, rfl⟩ := hrel
    go_wp2
    go_ret
    exact ⟨rfl, rfl⟩
/-- the pieces, in memory -/
def Strs (w : World) (LA : Option Addr) (n : Nat) (ps : List (List UInt8)) : Prop :=
  ps.length = n ∧ (0 < n → ∃ lb lo, LA = some ⟨lb, lo, none⟩ ∧ ∀ j p, ps[j]? = some p → w.cell? ⟨lb, lo + j, none⟩ = some (.string ⟨p.toArray⟩))
def tots (ps : List (List UInt8)) : Nat := (ps.take 81).flatten.length
theorem tot_map (ps : List (List UInt8)) : ∀ k, k ≤ ps.length → tot (ps.map fun p => ⟨p.toArray⟩) k = (ps.take k).flatten.length
  | 0, _ => rfl
  | k + 1, h => by
    rw [tot_succ _ k (by rw [List.length_map]; exact h), tot_map ps k (by omega), List.take_succ_eq_append_getElem (by omega), List.flatten_append, List.length_append]
    congr 1
    unfold nth
    rw [List.getD_eq_getElem?_getD, List.getElem?_map, List.getElem?_eq_getElem (by omega)]
    simp [ByteArray.size]
theorem long_l (LA : Option Addr) (n c : Nat) (ps : List (List UInt8)) (w : World) (h : Strs w LA n ps) (hl : n ≤ 140737488351232) (hsz : ∀ p ∈ ps, p.length ≤ 140737488351232) (q : Bool) (hq : decide (80 < n ∨ 48 < tots ps) = q) :
    Calls Tryz.prog 4 #[.slice LA n c] w fun e w' => e = .returned (.bool q) ∧ w' = w := by
  rcases Nat.eq_zero_or_pos n with h0 | h0
  · subst h0
    obtain rfl : ps = [] := List.eq_nil_of_length_eq_zero h.1
    have : q = false := by rw [← hq]; rfl
    rw [this]
    exact long_zero LA c w
  · obtain ⟨lb, lo, rfl, hc⟩ := h.2 h0
    have hln : (ps.map fun p => (⟨p.toArray⟩ : ByteArray)).length = n := by rw [List.length_map, h.1]
    have hnth : ∀ j, j < n → ∃ p, ps[j]? = some p ∧ nth (ps.map fun p => (⟨p.toArray⟩ : ByteArray)) j = ⟨p.toArray⟩ := fun j hj => by
      have hj' : j < ps.length := by rw [h.1]; exact hj
      refine ⟨ps[j], List.getElem?_eq_getElem hj', ?_⟩
      unfold nth
      rw [List.getD_eq_getElem?_getD, List.getElem?_map, List.getElem?_eq_getElem hj']
      rfl
    have := long_any lb lo c (ps.map fun p => (⟨p.toArray⟩ : ByteArray)) w (fun j hj => by
      rw [hln] at hj
      obtain ⟨p, hp, e⟩ := hnth j hj
      rw [e]; exact hc j p hp) (by rw [hln]; exact hl) (fun j => by
      rcases Nat.lt_or_ge j n with hj | hj
      · obtain ⟨p, hp, e⟩ := hnth j hj
        rw [e, size_mk p _ rfl]
        exact hsz p (List.mem_of_getElem? hp)
      · unfold nth
        rw [List.getD_eq_getElem?_getD, List.getElem?_eq_none (by rw [hln]; exact hj)]
        exact Nat.zero_le _)
    rw [hln] at this
    have ht : decide (80 < n ∨ 48 < tot (ps.map fun p => (⟨p.toArray⟩ : ByteArray)) 81) = q := by
      rw [← hq]
      congr 1
      rcases Nat.lt_or_ge 81 n with c | c
      · rw [tot_map ps 81 (by rw [h.1]; omega)]; rfl
      · rw [tot_all _ (k := 81) (by rw [hln]; exact c), hln]
        have e := tot_map ps n (by rw [h.1]; exact Nat.le_refl _)
        rw [e]
        unfold tots
        rw [List.take_of_length_le (by rw [h.1]; exact Nat.le_refl _), List.take_of_length_le (by rw [h.1]; exact c)]
    refine this.mono fun e w' hp => ?_
    unfold LongPost at hp
    rw [hln, ht] at hp
    exact hp
end
section
open Go.Shelf Go.RowKit Go.Lib
open Pieces (bt width full)
def Live (W : World) : Prop := ∀ w', (∀ k, k < 3 → w'.heap[k]? = W.heap[k]?) → Calls Tryz.prog 5 #[] w' fun e w'' => e = .returned (.bool true) ∧ Below w'.heap.size w' w''
def LawPost (W : World) (e : Ending) (w' : World) : Prop := e = .returned (.bool true) ∧ Below W.heap.size W w'
theorem law_long (t : List UInt8) (LA : Option Addr) (n c : Nat) (W : World) (hlong : Calls Tryz.prog 4 #[.slice LA n c] W fun e w' => e = .returned (.bool true) ∧ w' = W) (hlive : Live W) :
    Calls Tryz.prog 3 #[.string ⟨t.toArray⟩, .slice LA n c] W (LawPost W) := by
  have h5 := hlive W (fun _ _ => rfl)
  have H4 := Lib.hid hlong; have H5 := Lib.hid h5
  clear hlong h5 hlive
  go_enter Tryz.func3, Tryz.ntmps3
  go_wp2_with fail
  refine H4.out.mono ?_
  rintro e w1 ⟨rfl, rfl⟩
  dsimp only
  go_wp2_with fail
  refine H5.out.mono ?_
  rintro e w2 ⟨rfl, hb⟩
  dsimp only
  go_wp2
  go_ret
  exact ⟨rfl, hb⟩
theorem law_wide (t : List UInt8) (LA : Option Addr) (n c : Nat) (W : World) (hlong : Calls Tryz.prog 4 #[.slice LA n c] W fun e w' => e = .returned (.bool false) ∧ w' = W) (hlive : Live W) (ht : 40 < t.length) :
    Calls Tryz.prog 3 #[.string ⟨t.toArray⟩, .slice LA n c] W (LawPost W) := by
  have h5 := hlive W (fun _ _ => rfl)
  have H4 := Lib.hid hlong; have H5 := Lib.hid h5
  have hti : (40 : Int) < t.length := by omega
  clear hlong h5 hlive
  go_enter Tryz.func3, Tryz.ntmps3
  go_wp2_with fail
  refine H4.out.mono ?_
  rintro e w1 ⟨rfl, rfl⟩
  dsimp only
  go_wp2_with fail
  refine H5.out.mono ?_
  rintro e w2 ⟨rfl, hb⟩
  dsimp only
  go_wp2
  go_ret
  exact ⟨rfl, hb⟩
theorem law_empty (LA : Option Addr) (n c : Nat) (W : World) (hlong : Calls Tryz.prog 4 #[.slice LA n c] W fun e w' => e = .returned (.bool false) ∧ w' = W) (hlive : Live W) :
    Calls Tryz.prog 3 #[.string ⟨#[]⟩, .slice LA n c] W (LawPost W) := by
  have h5 := hlive W (fun _ _ => rfl)
  have H4 := Lib.hid hlong; have H5 := Lib.hid h5
  clear hlong h5 hlive
  go_enter Tryz.func3, Tryz.ntmps3
  go_wp2_with fail
  refine H4.out.mono ?_
  rintro e w1 ⟨rfl, rfl⟩
  dsimp only
  go_wp2_with fail
  refine (New_none _).mono ?_
  rintro e w1 ⟨rfl, rfl⟩
  dsimp only
  go_wp2_with fail
  refine (num_ok _ _).mono ?_
  rintro e w1 ⟨rfl, rfl⟩
  dsimp only
  go_wp2_with fail
  refine (num_ok _ _).mono ?_
  rintro e w1 ⟨rfl, rfl⟩
  dsimp only
  go_wp2_with fail
  refine H5.out.mono ?_
  rintro e w2 ⟨rfl, hb⟩
  dsimp only
  go_wp2
  go_ret
  exact ⟨rfl, hb⟩
theorem write_st {W : World} {t : List UInt8} {ps : List (List UInt8)} {xb sb k m c : Nat} {p : List UInt8} {got : List Nat} {b : List UInt8} {vg vb : Value} {A : Option Addr} {w : World} (h : LJ W t xb sb (st t ps k).w (st t ps k).held (st t ps k).done got b vg vb w)
    (hp : ps[k]? = some p) (ht : t ≠ []) (hw : (st t ps (k + 1)).w.length ≤ 48) (hbr : BR w w.heap.size A m p) (hT : Lib.Utf8Tabs 0 1 W) (h3 : 3 ≤ W.heap.size) :
    Calls Tryz.prog 8 #[.pointer (some ⟨xb, 0, none⟩), .slice A m c] w fun e w' => ∃ v out, e = .returned v ∧ w'.ownsRow w.heap.size 3 1 v out.length (intsV out) ∧
      LJ W t xb sb (st t ps (k + 1)).w (st t ps (k + 1)).held (st t ps (k + 1)).done got b vg vb w' ∧ (st t ps (k + 1)).got = (st t ps k).got ++ out ∧ (st t ps (k + 1)).w = (st t ps k).w ++ p ∧ w.heap.size ≤ w'.heap.size := by
  have hst := st_succ (t := t) hp
  obtain ⟨hv, fed, hS, hne⟩ := h.sc
  have hwl : ((st t ps k).w ++ p).length ≤ 48 := by rw [hst] at hw; exact hw
  have hmp : p.length = m := hbr.1
  have hhl := st_held ht ps k
  have hdl := st_done ht ps k
  have hhl1 := st_held ht ps (k + 1)
  rw [List.length_append] at hwl
  have hh : ∀ g, hv.ownBlock = some g → 2 ≤ g := fun g hg => by have := (own_lt hS.own hg).1; omega
  have hlen1 := every_len (t := t) (w := (st t ps k).w ++ p) ht
  have hmem1 := every_mem (t := t) (w := (st t ps k).w ++ p) ht
  have hl2 : ((st t ps k).w ++ p).length ≤ 48 := by rw [List.length_append]; exact hwl
  have hheld : Pieces.drain ((st t ps k).held.length + m) ((st t ps k).held ++ p) = (st t ps (k + 1)).held := by
    rw [hst, ← hmp, ← List.length_append]; rfl
  have hww : (st t ps k).w ++ p = (st t ps (k + 1)).w := by rw [hst]; rfl
  rw [hww] at hlen1 hmem1 hl2
  refine (write_ok xb sb t (st t ps k).w (st t ps k).held p hv fed (st t ps k).done _ W.heap.size A m c _ _ _ _ _ _ w h.fi hS hbr h.bel.size rfl (by omega) (tabs_fr (Fr.of_below h.bel (Nat.le_refl _)) hT (T := fun _ => False) id id) (by have := h.x2; omega) (by have := h.s2; omega) hh
    hww rfl (by omega) ht rfl (by omega) (fun q hq => by have := hmem1 q hq; omega) (by omega) hheld rfl rfl).mono ?_
  rintro e w' hpost
  obtain ⟨v, rfl, hown⟩ := hpost.ret
  have hE : (((st t ps (k + 1)).w.length : Int) - (st t ps (k + 1)).held.length) = (((st t ps (k + 1)).w.length - (st t ps (k + 1)).held.length : Nat) : Int) := by omega
  have hJ := h.write hS hne hpost
  rw [hE, keep_told ht _ _ (Nat.sub_le _ _)] at hown hJ
  have hd : Pieces.next (Pieces.told width t (st t ps (k + 1)).w ((st t ps (k + 1)).w.length - (st t ps (k + 1)).held.length) (st t ps k).done) (st t ps k).done = (st t ps (k + 1)).done := by rw [hst]; rfl
  rw [hd] at hJ
  exact ⟨v, _, rfl, hown, hJ, by rw [hst]; rfl, hww.symm, hpost.fr.size⟩
set_option maxHeartbeats 4000000 in
set_option maxRecDepth 100000 in
theorem law_main (t : List UInt8) (LA : Option Addr) (n c : Nat) (ps : List (List UInt8)) (W : World) (hlong : Calls Tryz.prog 4 #[.slice LA n c] W fun e w' => e = .returned (.bool false) ∧ w' = W) (hlive : Live W)
    (hL : Strs W LA n ps) (hn : n ≤ 80) (hsum : ps.flatten.length ≤ 48) (ht : t ≠ []) (htl : t.length ≤ 40) (hT : Lib.Utf8Tabs 0 1 W) (h3 : 3 ≤ W.heap.size) :
    Calls Tryz.prog 3 #[.string ⟨t.toArray⟩, .slice LA n c] W (LawPost W) := by
  have hd : decide ((40 : Int) < t.length) = false := by rw [decide_eq_false_iff_not]; omega
  have H4 := Lib.hid hlong; have HLV := Lib.hid hlive; have HL := Lib.hid hL; have HT := Lib.hid hT; have HTN := Lib.hid ht; have HSUM := Lib.hid hsum
  clear hlong hlive hL hT hsum
  go_enter Tryz.func3, Tryz.ntmps3
  go_wp2_with fail
  refine H4.out.mono ?_
  rintro e w1 ⟨rfl, hw⟩
  rw [hw]
  clear hw w1
  dsimp only
  go_wp2_with fail
  refine (New_ok t _ HTN.out (by omega)).mono ?_
  rintro e w1 ⟨rfl, rfl⟩
  dsimp only
  go_wp2_with fail
  refine (num_ok _ _).mono ?_
  rintro e w2 ⟨rfl, rfl⟩
  dsimp only
  go_wp2_with fail
  go_loopw [9, 7, 8] (fun i vg vb wr => ∃ k : Nat, k ≤ n ∧ i = .int .i64 k ∧ LJ W t (W.heap.size + 1) W.heap.size (st t ps k).w (st t ps k).held (st t ps k).done (st t ps k).got (st t ps k).w vg vb wr) (fun i _ _ _ => n - (RowKit.intOf i).toNat)
  case atStart =>
    refine ⟨0, Nat.zero_le _, rfl, ?_⟩
    rw [st_zero]
    have b1 := (Below.refl W.heap.size W).alloc (Nat.le_refl _) (.cells #[.slice none 0 0, .int .i64 0] 60)
    have b2 := b1.alloc b1.size (.cells #[.string ⟨t.toArray⟩, .string ⟨#[]⟩, .pointer (some ⟨W.heap.size, 0, none⟩), .int .i64 0] 46)
    have e1 := heap_alloc_new (W.alloc (.cells #[.slice none 0 0, .int .i64 0] 60)) (.cells #[.string ⟨t.toArray⟩, .string ⟨#[]⟩, .pointer (some ⟨W.heap.size, 0, none⟩), .int .i64 0] 46)
    have e0 : ((W.alloc (.cells #[.slice none 0 0, .int .i64 0] 60)).alloc (.cells #[.string ⟨t.toArray⟩, .string ⟨#[]⟩, .pointer (some ⟨W.heap.size, 0, none⟩), .int .i64 0] 46)).heap[W.heap.size]? = some (.cells #[.slice none 0 0, .int .i64 0] 60) := by
      rw [Below.heap_alloc _ _ _ (by simp)]
      exact heap_alloc_new W _
    refine ⟨b2, Nat.le_succ _, Nat.le_refl _, ⟨?_⟩, ⟨rfl, .inl ⟨rfl, rfl⟩⟩, ⟨rfl, .inl ⟨rfl, rfl⟩⟩, .slice none 0 0, 0, ⟨e0, ⟨rfl, .inl ⟨rfl, rfl⟩⟩⟩, fun g hg => by cases hg⟩
    simpa using e1
  case round =>
    obtain ⟨k, hk, rfl, hJ⟩ := hrel
    have HJ := Lib.hid hJ; clear hJ
    by_cases hlt : k < n
    · obtain ⟨lb, lo, rfl, hcell⟩ := HL.out.2 (by omega)
      obtain ⟨p, hp⟩ : ∃ p, ps[k]? = some p := ⟨ps[k]'(by rw [HL.out.1]; exact hlt), List.getElem?_eq_getElem _⟩
      have hc0 := hcell k p hp
      have hck : wr.cell? ⟨lb, lo + k, none⟩ = some (.string ⟨p.toArray⟩) := (HJ.out.bel.cell (p := ⟨lb, lo + k, none⟩) (cell_lt hc0)).trans hc0
      obtain ⟨m, hm⟩ : ∃ m, p.length = m := ⟨_, rfl⟩
      obtain ⟨cp, hcp⟩ : ∃ cp, grownCap wr (⟨p.toArray⟩ : ByteArray).size 0 5 = cp := ⟨_, rfl⟩
      obtain ⟨wb, hwb⟩ : ∃ wb, bytesWorld wr 5 ⟨p.toArray⟩ = wb := ⟨_, rfl⟩
      have hcv : (convert 9 31 (.string ⟨p.toArray⟩)).run Tryz.prog wr = .ok (.slice (some ⟨wr.heap.size, 0, none⟩) m cp) wb := by
        rw [Lib.run_convert_string_bytes wr 9 31 5 ⟨p.toArray⟩ Tryz.underlying9 Tryz.underlying31 Tryz.underlying5, hcp, hwb, size_mk p _ rfl, hm]
      have hwlen : (st t ps (k + 1)).w.length ≤ 48 := by
        rw [st_w]
        have : (ps.take (k + 1)).flatten.length ≤ ps.flatten.length := by
          conv => rhs; rw [← List.take_append_drop (k + 1) ps, List.flatten_append, List.length_append]
          omega
        exact Nat.le_trans this HSUM.out
      have hJb : LJ W t (W.heap.size + 1) W.heap.size (st t ps k).w (st t ps k).held (st t ps k).done (st t ps k).got (st t ps k).w u7 u8 wb := by rw [← hwb]; exact HJ.out.below (bytes_below wr _)
      have hbr : BR wb wb.heap.size (some ⟨wr.heap.size, 0, none⟩) m p := by rw [← hwb]; exact bytes_br wr p m hm
      have hwrite := write_st (c := cp) hJb hp HTN.out hwlen hbr HT.out h3
      have hgb := st_got HTN.out ps k
      have hgb1 := st_got HTN.out ps (k + 1)
      have hk0 : (0 : Int) ≤ k := by omega
      have hk1 : (k : Int) < n := by omega
      have HW := Lib.hid hwrite; have HC0 := Lib.hid hc0; have HM := Lib.hid hm; have HP := Lib.hid hp; have HCL := Lib.hid hcell; have HGB := Lib.hid hgb; have HGB1 := Lib.hid hgb1; have HWL := Lib.hid hwlen
      clear hwrite hc0 hm hp hcell hgb hgb1 hwlen hJb hbr hcp hwb
      go_wp2_with fail
      refine HW.out.mono ?_
      rintro e w2 ⟨v, out, rfl, hown, hJ2, hgot, hw, hsz⟩
      obtain ⟨A3, c3, rfl, _⟩ := own_slice hown
      have hsrc := Src.of_own hown
      have hgl : (st t ps k).got.length + out.length ≤ 49 := by rw [← List.length_append, ← hgot]; exact Nat.le_trans HGB1.out (by have := HWL.out; omega)
      have hwl : (st t ps k).w.length + m ≤ 48 := by have := HWL.out; rw [hw, List.length_append, HM.out] at this; exact this
      have hck2 : w2.cell? ⟨lb, lo + k, none⟩ = some (.string ⟨p.toArray⟩) := (hJ2.bel.cell (p := ⟨lb, lo + k, none⟩) (cell_lt HC0.out)).trans HC0.out
      obtain ⟨i3, hi3, hz30, hz31, hz32⟩ := info_parts int_info
      obtain ⟨i5, hi5, hz50, hz51, hz52⟩ := info_parts byte_info
      have HJ2 := Lib.hid hJ2; have HOWN := Lib.hid hown; have HSRC := Lib.hid hsrc; have HGOT := Lib.hid hgot; have HWW := Lib.hid hw
      clear hJ2 hown hsrc hgot hw hsz hcv hck
      dsimp only
      go_wp2_with (first
        | (at_builtin
           refine wpList_app _ rfl (.tmp 54) (.tmp 61) 30 rfl W.heap.size 3 i3 _ 8 Tryz.underlying30 hi3 hz30 hz31 hz32 rfl _ (st t ps k).got.length (intsV (st t ps k).got) rfl HJ2.out.got A3 out.length c3 (intsV out) rfl HSRC.out ?_ ?_ ?_ HJ2.out.bel.size ?_
           · intro u hu; obtain ⟨z, _, rfl⟩ := List.mem_map.1 hu; rfl
           · simp only [maxLen]; omega
           · omega
           intro v4 w4 hown4 hgrow4 hat4
           have hJ4 := HJ2.out.app_got (got' := (st t ps (k + 1)).got) hgrow4 (by rw [HGOT.out, List.length_append, intsV_app]; exact hown4)
           have hck4 : w4.cell? ⟨lb, lo + k, none⟩ = some (.string ⟨p.toArray⟩) := (hJ4.bel.cell (p := ⟨lb, lo + k, none⟩) (cell_lt HC0.out)).trans HC0.out
           have HJ4 := Lib.hid hJ4
           clear hown4 hgrow4 hat4 hJ4)
        | (at_builtin
           refine wpList_app_str _ rfl (.tmp 63) (.tmp 67) rfl W.heap.size i5 hi5 hz50 hz51 hz52 _ (st t ps k).w.length (bytesV (st t ps k).w) rfl HJ4.out.b p m rfl HM.out (by omega) HJ4.out.bel.size ?_
           intro v5 w5 hown5 hgrow5 hat5
           have hJ5 := HJ4.out.app_b (b' := (st t ps (k + 1)).w) hgrow5 (by rw [HWW.out, List.length_append, bytesV_app, HM.out]; exact hown5) hat5
           have HJ5 := Lib.hid hJ5
           clear hown5 hgrow5 hat5 hJ5))
      exact ⟨⟨k + 1, hlt, by first | rfl | (rw [show wrap64 ((k : Int) + 1) = ((k + 1 : Nat) : Int) by unfold wrap64; omega]), HJ5.out⟩, by simp [RowKit.intOf]; omega⟩
    · have hkn : k = n := by omega
      subst hkn
      have hwlen : (st t ps k).w.length ≤ 48 := by
        rw [st_w, List.take_of_length_le (by rw [HL.out.1]; exact Nat.le_refl _)]
        exact HSUM.out
      obtain ⟨ms, hms⟩ : ∃ ms, Pieces.every t (Pieces.places width (st t ps k).w ((st t ps k).w.length + 1) 0) = ms := ⟨_, rfl⟩
      obtain ⟨N, hN⟩ : ∃ N, (st t ps k).w.length = N := ⟨_, rfl⟩
      have hlen := every_len (t := t) (w := (st t ps k).w) HTN.out
      have hmem := every_mem (t := t) (w := (st t ps k).w) HTN.out
      have hdl := st_done HTN.out ps k
      have hhl := st_held HTN.out ps k
      rw [hms] at hlen hmem
      obtain ⟨hv, fed, hS, hne⟩ := HJ.out.sc
      have hTw := tabs_fr (Fr.of_below HJ.out.bel (Nat.le_refl _)) HT.out (T := fun _ => False) id id
      have hclose := close_ok (W.heap.size + 1) W.heap.size t (st t ps k).w (st t ps k).held hv fed (st t ps k).done W.heap.size ms N wr HJ.out.fi hS (by omega) hTw (by omega) (by omega) hN (by omega) HTN.out hms (by omega) (fun q hq => by have := hmem q hq; omega) (by omega)
      -- all that was told, and where t stands
      have hG : (st t ps k).got ++ keep (st t ps k).done N ms = ms.map (·.1) := by
        rw [← hms, ← hN, keep_told HTN.out _ _ (Nat.le_refl _), st_end HTN.out, Pieces.every_upto Pieces.width_good HTN.out, List.map_map]
        exact (List.map_id _).symm
      have HCL := Lib.hid hclose; have HG := Lib.hid hG; have HMS := Lib.hid hms; have HN := Lib.hid hN; have HS := Lib.hid hS; have HNE := Lib.hid hne; have HMEM := Lib.hid hmem; have HLEN := Lib.hid hlen
      clear hclose hG hms hS hne hmem hTw hdl hhl hlen
      go_wp2_with fail
      refine HCL.out.mono ?_
      rintro e w2 ⟨v, rfl, hown, hf2⟩
      obtain ⟨out, hout⟩ : ∃ out, keep (st t ps k).done N ms = out := ⟨_, rfl⟩
      rw [hout] at hown
      have hGG := HG.out
      rw [hout] at hGG
      have hbel2 := below_fr HJ.out.bel hf2 (by rintro j (rfl | rfl); exact Nat.le_succ _; exact Nat.le_refl _)
      have hgot2 := hf2.own HJ.out.got (by
        rintro g hg (c | c)
        · exact own_ne_blk HJ.out.got HJ.out.fi.blk (by decide) g hg c
        · exact own_ne_blk HJ.out.got HS.out.blk (by decide) g hg c)
      have hb2 := hf2.own HJ.out.b (by
        rintro g hg (c | c)
        · exact own_ne_blk HJ.out.b HJ.out.fi.blk (by decide) g hg c
        · exact own_ne_blk HJ.out.b HS.out.blk (by decide) g hg c)
      obtain ⟨A3, c3, rfl, _⟩ := own_slice hown
      have hsrc := Src.of_own hown
      obtain ⟨L, hL⟩ : ∃ L, ms.length = L := ⟨_, rfl⟩
      have hgl : (st t ps k).got.length + out.length = L := by rw [← List.length_append, hGG, List.length_map, hL]
      have hLb : L ≤ 49 := by rw [← hL]; have := HLEN.out; omega
      obtain ⟨i3, hi3, hz30, hz31, hz32⟩ := info_parts int_info
      have HB2 := Lib.hid hbel2; have HGOT := Lib.hid hgot2; have HBB := Lib.hid hb2; have HSRC := Lib.hid hsrc; have HGG := Lib.hid hGG; have HGL := Lib.hid hgl; have HLL := Lib.hid hL
      clear hbel2 hgot2 hb2 hsrc hGG hL hown hf2 hout
      dsimp only
      go_wp2_with
        (at_builtin
         refine wpList_app _ rfl (.tmp 69) (.tmp 71) 30 rfl W.heap.size 3 i3 _ 8 Tryz.underlying30 hi3 hz30 hz31 hz32 rfl _ (st t ps k).got.length (intsV (st t ps k).got) rfl HGOT.out A3 out.length c3 (intsV out) rfl HSRC.out ?_ ?_ ?_ HB2.out.size ?_
         · intro u hu; obtain ⟨z, _, rfl⟩ := List.mem_map.1 hu; rfl
         · simp only [maxLen]; omega
         · omega
         intro v4 w4 hown4 hgrow4 hat4
         rw [← intsV_app, HGG.out, HGL.out] at hown4
         have hbel4 : Below W.heap.size W w4 := HB2.out.grown hgrow4 HB2.out.size (fun g hg => (own_lt HGOT.out hg).1)
         have hf4 : Fr (fun j => u7.ownBlock = some j) w2 w4 := Fr.grown hgrow4 (fun _ h _ => h)
         have hb4 := hf4.own HBB.out (fun g hb c => own_ne_own HGOT.out HBB.out (by decide) g c hb)
         obtain ⟨A4, c4, rfl, _⟩ := own_slice hown4
         obtain ⟨hbl, A5, c5, rfl, hbr5, _⟩ := BR.of_own hb4
         have hcv := conv_br hbr5 c5
         rw [hN] at hcv
         have HB4 := Lib.hid hbel4; have HO4 := Lib.hid hown4
         clear hbel4 hown4 hgrow4 hat4 hf4 hb4 hbr5 hbl)
      have hT4 := tabs_fr (Fr.of_below HB4.out (Nat.le_refl _)) HT.out (T := fun _ => False) id id
      have hev := every_ok (st t ps k).w t w4 hT4 (by omega) HTN.out
      rw [HMS.out] at hev
      refine hev.mono ?_
      rintro e w6 ⟨v6, rfl, hb6, hown6⟩
      have hbel6 : Below W.heap.size W w6 := HB4.out.trans (hb6.mono HB4.out.size)
      have hgot6 := (Fr.of_below (T := fun _ => False) hb6 (Nat.le_refl _)).own HO4.out (fun _ _ => id)
      rw [HLL.out] at hown6
      have hms6 := own_base hown6 (base' := W.heap.size) (fun g hg => Nat.le_trans HB4.out.size (own_lt hown6 hg).1)
      obtain ⟨A6, c6, rfl, _⟩ := own_slice hms6
      have HB6 := Lib.hid hbel6; have HG6 := Lib.hid hgot6; have HM6 := Lib.hid hms6
      clear hT4 hev hbel6 hgot6 hms6 hown6 hb6 hcv
      dsimp only
      go_wp2
      clear HB2 HGOT HBB HSRC HO4 HB4 HJ
      go_loopw [11] (fun i wq => ∃ j : Nat, j ≤ L ∧ i = .int .i64 j ∧ Below W.heap.size W wq ∧ wq.ownsRow W.heap.size 39 2 (.slice A6 L c6) L (matchesV ms) ∧ wq.ownsRow W.heap.size 3 1 (.slice A4 L c4) L (intsV (ms.map (·.1)))) (fun i _ => L - (RowKit.intOf i).toNat)
      case atStart => exact ⟨0, Nat.zero_le _, rfl, HB6.out, HM6.out, HG6.out⟩
      case round =>
        obtain ⟨j, hj, rfl, hbq, hmq, hgq⟩ := hrel
        by_cases hjl : j < L
        · obtain ⟨⟨a, b⟩, hp⟩ : ∃ p, ms[j]? = some p := ⟨ms[j]'(by rw [HLL.out]; exact hjl), List.getElem?_eq_getElem _⟩
          obtain ⟨gm, capm, hvm, _⟩ := hmq.form (by omega)
          obtain ⟨rfl, rfl⟩ : A6 = some ⟨gm, 0, none⟩ ∧ c6 = capm := by injection hvm with h1 h2 h3; exact ⟨h1, h3⟩
          obtain ⟨gg, capg, hvg, _⟩ := hgq.form (by omega)
          obtain ⟨rfl, rfl⟩ : A4 = some ⟨gg, 0, none⟩ ∧ c4 = capg := by injection hvg with h1 h2 h3; exact ⟨h1, h3⟩
          clear hvm hvg
          obtain ⟨d0, _⟩ := match_cells hmq hp
          have d1 : wr.cell? ⟨gg, j, none⟩ = some (.int .i64 a) := by
            have := hgq.cells (g := gg) rfl j (.int .i64 a) (by unfold intsV; rw [List.getElem?_map, List.getElem?_map, hp]; rfl)
            rwa [add_none, Nat.zero_add] at this
          have hj0 : (0 : Int) ≤ j := by omega
          have hj1 : (j : Int) < L := by omega
          have HBQ := Lib.hid hbq; have HMQ := Lib.hid hmq; have HGQ := Lib.hid hgq
          clear hbq hmq hgq hp
          go_wp2_with fail
          go_quiet (fail)
          go_wp2
          exact ⟨⟨j + 1, hjl, by first | rfl | (rw [show wrap64 ((j : Int) + 1) = ((j + 1 : Nat) : Int) by unfold wrap64; omega]), below_drewN HBQ.out _, HMQ.out, HGQ.out⟩, by simp [RowKit.intOf]; omega⟩
        · have hlv := HLV.out wr (fun i hi => hbq.block i (by omega))
          have HBQ := Lib.hid hbq; have HLQ := Lib.hid hlv
          clear hbq hlv hmq hgq
          go_wp2_with fail
          refine HLQ.out.mono ?_
          rintro e w9 ⟨rfl, hb9⟩
          dsimp only
          go_wp2
          go_ret
          exact ⟨rfl, HBQ.out.trans (hb9.mono HBQ.out.size)⟩
end
end Go.Proofs.YtfmnninijakknaaGreatDoor.searchPieces
