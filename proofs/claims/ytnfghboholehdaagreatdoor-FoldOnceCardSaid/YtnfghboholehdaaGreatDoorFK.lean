/- FoldOnce, walked: word.scan, word.Bounds, Title; the law itself, where open, props.New and live are given. -/
import Derived.Test.YtnfghboholehdaaGreatDoorFJ
import Derived.Test.YtnfghboholehdaaGreatDoorFC
import Derived.Test.YtnfghboholehdaaGreatDoorFE
import Derived.Test.YtnfghboholehdaaGreatDoorFH
namespace Go.Proofs.YtnfghboholehdaaGreatDoor.foldOnce
section
open Go.Shelf Go.RowKit Go.Lib Go.Proofs.YtnfghboholehdaaGreatDoor.Am
open Folds (dec dec_pos dec_le)
def intsW (l : List Int) : List Value := l.map (Value.int .i64)
theorem intsW_app (l x : List Int) : intsW (l ++ x) = intsW l ++ intsW x := by simp [intsW]
theorem int_info : (Tryz.prog.info? 3).map (fun i => (i.zero, i.size, i.bytes)) = some (some (.int .i64 0), 1, 8) := by kernel_rfl
theorem src_one (w : World) (x : Value) (ty : TypeId) : Src (w.alloc (.cells #[x] ty)) (some ⟨w.heap.size, 0, none⟩) 1 [x] := by
  refine ⟨rfl, fun _ => ⟨_, rfl, fun j u hu => ?_⟩⟩
  match j, hu with
  | 0, hu =>
    rw [add_none, cell_of_row _ _ _ _ _ _ (heap_alloc_new w _)]
    exact hu
  | j + 1, hu => simp at hu
theorem src_one' (w : World) (x : Value) (ty : TypeId) (k : Nat) (hk : w.heap.size = k) : Src (w.alloc (.cells #[x] ty)) (some ⟨k, 0, none⟩) 1 [x] := by subst hk; exact src_one w x ty
/-- the loop's state: the box, the two rows, the text's iterator -/
structure SL (w1 : World) (s : ByteArray) (L : Int) (e m1 m2 : Nat) (x1 x2 v1 v2 : Value) (ats cls : List Int) (w : World) : Prop where
  bel : Below w1.heap.size w1 w
  it : w.heap[w1.heap.size + 1]? = some (.stringIter s e)
  blk : w.heap[w1.heap.size]? = some (.cells #[x1, x2, .int .i64 L] 97 (0, 0))
  o1 : w.ownsRow w1.heap.size 3 1 v1 m1 (intsW ats)
  o2 : w.ownsRow w1.heap.size 3 1 v2 m2 (intsW cls)
  ap : ∀ k, v1.ownBlock = some k → v2.ownBlock = some k → False
section
variable {w1 w w' : World} {s : ByteArray} {L : Int} {e m1 m2 : Nat} {x1 x2 v1 v2 : Value} {ats cls : List Int}
theorem SL.below (h : SL w1 s L e m1 m2 x1 x2 v1 v2 ats cls w) (hb : Below w.heap.size w w') : SL w1 s L e m1 m2 x1 x2 v1 v2 ats cls w' :=
  ⟨h.bel.trans (hb.mono h.bel.size), below_blk hb h.it, below_blk hb h.blk, own_below hb h.o1, own_below hb h.o2, h.ap⟩
theorem SL.alloc (h : SL w1 s L e m1 m2 x1 x2 v1 v2 ats cls w) (o : Obj) : SL w1 s L e m1 m2 x1 x2 v1 v2 ats cls (w.alloc o) := h.below ((Below.refl _ w).alloc (Nat.le_refl _) o)
theorem SL.alloc1 (h : SL w1 s L e m1 m2 x1 x2 v1 v2 ats cls w) {o : Obj} : (w.alloc o).ownsRow w1.heap.size 3 1 v1 m1 (intsW ats) := (h.alloc o).o1
theorem SL.alloc2 (h : SL w1 s L e m1 m2 x1 x2 v1 v2 ats cls w) {o : Obj} : (w.alloc o).ownsRow w1.heap.size 3 1 v2 m2 (intsW cls) := (h.alloc o).o2
theorem SL.drew (h : SL w1 s L e m1 m2 x1 x2 v1 v2 ats cls w) : SL w1 s L e m1 m2 x1 x2 v1 v2 ats cls w.drew := ⟨⟨h.bel.os, h.bel.tape, h.bel.output, h.bel.size, h.bel.block⟩, h.it, h.blk, h.o1, h.o2, h.ap⟩
theorem SL.iter (h : SL w1 s L e m1 m2 x1 x2 v1 v2 ats cls w) (e' : Nat) : SL w1 s L e' m1 m2 x1 x2 v1 v2 ats cls (w.iterAt (w1.heap.size + 1) s e') :=
  ⟨below_iterAt h.bel (Nat.le_succ _) s e', iterAt_heap w _ s e e' h.it, (iterAt_other w _ _ s e' (Nat.ne_of_lt (Nat.lt_succ_self _))).trans h.blk, own_iterAt h.it h.o1, own_iterAt h.it h.o2, h.ap⟩
theorem SL.box (h : SL w1 s L e m1 m2 x1 x2 v1 v2 ats cls w) : w.cell? ⟨w1.heap.size, 0, none⟩ = some x1 ∧ w.cell? ⟨w1.heap.size, 1, none⟩ = some x2 ∧ w.cell? ⟨w1.heap.size, 2, none⟩ = some (.int .i64 L) ∧ (∀ j, w.frozen? ⟨w1.heap.size, j, none⟩ = false) ∧ w1.heap.size < w.heap.size :=
  ⟨by rw [cell_of_row _ _ _ _ _ _ h.blk]; rfl, by rw [cell_of_row _ _ _ _ _ _ h.blk]; rfl, by rw [cell_of_row _ _ _ _ _ _ h.blk]; rfl, fun j => frozen_of_row _ _ _ _ _ h.blk, heap_lt h.blk⟩
theorem own_ne {g : Nat} {base : Nat} {v : Value} {n : Nat} {xs : List Value} {o : Obj} (h : w.ownsRow base 3 1 v n xs) (hg : w.heap[g]? = some o) (ho : ∀ cur, o ≠ .cells cur 3 (0, 0)) : some g ≠ v.ownBlock := by
  intro hk
  obtain ⟨_, _, cur, hcur⟩ := own_lt h hk.symm
  rw [hg] at hcur
  exact ho cur (Option.some.inj hcur)
theorem SL.grow1 (h : SL w1 s L e m1 m2 x1 x2 v1 v2 ats cls w) {o : Obj} {v' : Value} {x : Int} (ho : w'.ownsRow w1.heap.size 3 1 v' (m1 + 1) (intsW ats ++ [.int .i64 x])) (hg : (w.alloc o).grownBy w' v1.ownBlock) (hn : v'.ownBlock = v1.ownBlock ∨ v'.ownBlock = some (w.alloc o).heap.size) :
    SL w1 s L e (m1 + 1) m2 x1 x2 v' v2 (ats ++ [x]) cls w' := by
  have h' := h.alloc o
  refine ⟨h'.bel.grown hg h'.bel.size (fun k hk => (own_lt h'.o1 hk).1), ?_, ?_, by rw [intsW_app]; exact ho, ?_, ?_⟩
  · rw [hg.block _ (heap_lt h'.it) (own_ne h'.o1 h'.it (fun _ h => by cases h))]; exact h'.it
  · rw [hg.block _ (heap_lt h'.blk) (own_ne h'.o1 h'.blk (fun _ h => by injection h with _ h; exact absurd h (by decide)))]; exact h'.blk
  · exact (Fr.grown (T := fun k => v1.ownBlock = some k) hg (fun k hk _ => hk)).own h'.o2 (fun k hk hk2 => h.ap k hk2 hk)
  · intro k hk hk2
    rcases hn with hn | hn
    · rw [hn] at hk; exact h.ap k hk hk2
    · rw [hn] at hk
      have := (own_lt h'.o2 hk2).2.1
      injection hk with hk
      omega
theorem SL.grow2 (h : SL w1 s L e m1 m2 x1 x2 v1 v2 ats cls w) {o : Obj} {v' : Value} {x : Int} (ho : w'.ownsRow w1.heap.size 3 1 v' (m2 + 1) (intsW cls ++ [.int .i64 x])) (hg : (w.alloc o).grownBy w' v2.ownBlock) (hn : v'.ownBlock = v2.ownBlock ∨ v'.ownBlock = some (w.alloc o).heap.size) :
    SL w1 s L e m1 (m2 + 1) x1 x2 v1 v' ats (cls ++ [x]) w' := by
  have h' := h.alloc o
  refine ⟨h'.bel.grown hg h'.bel.size (fun k hk => (own_lt h'.o2 hk).1), ?_, ?_, ?_, by rw [intsW_app]; exact ho, ?_⟩
  · rw [hg.block _ (heap_lt h'.it) (own_ne h'.o2 h'.it (fun _ h => by cases h))]; exact h'.it
  · rw [hg.block _ (heap_lt h'.blk) (own_ne h'.o2 h'.blk (fun _ h => by injection h with _ h; exact absurd h (by decide)))]; exact h'.blk
  · exact (Fr.grown (T := fun k => v2.ownBlock = some k) hg (fun k hk _ => hk)).own h'.o1 (fun k hk hk2 => h.ap k hk hk2)
  · intro k hk hk2
    rcases hn with hn | hn
    · rw [hn] at hk2; exact h.ap k hk hk2
    · rw [hn] at hk2
      have := (own_lt h'.o1 hk).2.1
      injection hk2 with hk2
      omega
theorem SL.set1 (h : SL w1 s L e m1 m2 x1 x2 v1 v2 ats cls w) (u : Value) : SL w1 s L e m1 m2 u x2 v1 v2 ats cls (w.setCell ⟨w1.heap.size, 0, none⟩ u) := by
  refine ⟨h.bel.setCell (Nat.le_refl _) u, (Below.heap_setCell w _ u _ (Nat.succ_ne_self _)).trans h.it, heap_setCell_same w _ 0 _ _ u h.blk, ownsRow_setCell_other h.o1 (own_ne h.o1 h.blk (fun _ h => by injection h with _ h; exact absurd h (by decide))).symm u, ownsRow_setCell_other h.o2 (own_ne h.o2 h.blk (fun _ h => by injection h with _ h; exact absurd h (by decide))).symm u, h.ap⟩
theorem SL.set2 (h : SL w1 s L e m1 m2 x1 x2 v1 v2 ats cls w) (u : Value) : SL w1 s L e m1 m2 x1 u v1 v2 ats cls (w.setCell ⟨w1.heap.size, 1, none⟩ u) := by
  refine ⟨h.bel.setCell (Nat.le_refl _) u, (Below.heap_setCell w _ u _ (Nat.succ_ne_self _)).trans h.it, heap_setCell_same w _ 1 _ _ u h.blk, ownsRow_setCell_other h.o1 (own_ne h.o1 h.blk (fun _ h => by injection h with _ h; exact absurd h (by decide))).symm u, ownsRow_setCell_other h.o2 (own_ne h.o2 h.blk (fun _ h => by injection h with _ h; exact absurd h (by decide))).symm u, h.ap⟩
end
theorem ints_own {w : World} {base n c : Nat} {A : Option Addr} {zs : List Int} (h : w.ownsRow base 3 1 (.slice A n c) n (intsW zs)) (hn : n ≤ 100000) : IntsR w A n zs := by
  refine ⟨by have := h.1; simpa [intsW] using this, hn, fun h0 => ?_⟩
  obtain ⟨g, rfl⟩ := own_some h h0
  refine ⟨g, 0, rfl, (own_lt h rfl).2.1, fun j hj => ?_⟩
  have hl : zs.length = n := by have := h.1; simpa [intsW] using this
  have hx := World.ownsRow.cells (g := g) h rfl j (.int .i64 (zs.getD j 0)) (by
    unfold intsW
    rw [List.getElem?_map, List.getElem?_eq_getElem (by omega), List.getD_eq_getElem?_getD, List.getElem?_eq_getElem (by omega)]
    rfl)
  rw [← add_none]
  exact hx
/-- the text that the second region's first operation hands to a callee -/
noncomputable def argOf (c : Option Code) : ByteArray := match c with
  | some (Code.seq _ (Code.seq (Code.region _ ops _) _)) => match ops[0]? with
    | some o => match o.op with
      | Op.call c => match c.args[0]? with
        | some (Operand.const (Value.string s)) => s
        | _ => ⟨#[]⟩
      | _ => ⟨#[]⟩
    | none => ⟨#[]⟩
  | _ => ⟨#[]⟩
/-- the text of word's classes, as scan hands it on -/
noncomputable def wordProps : ByteArray := argOf Tryz.f63.body
/-- what props.New is to do with it -/
def NewW (w : World) : Prop := Calls Tryz.prog 59 #[.string wordProps] w fun e w' => ∃ d x y, e = .returned (.tuple #[d, x, y]) ∧ DbAt w' d rangedW ∧ Below w.heap.size w w'
theorem rangedW_asc : ascR rangedW = true := by decide +kernel
def ScanPost (t : List UInt8) (W : World) (e : Ending) (w' : World) : Prop := ∃ A1 m c1 A2 c2 ats cls, m ≤ 10000 ∧ e = .returned (.agg #[.slice A1 m c1, .slice A2 m c2, .int .i64 t.length]) ∧ IntsR w' A1 m ats ∧ IntsR w' A2 m cls ∧ Below W.heap.size W w'
theorem LEN8 {m e n : Nat} (h1 : m ≤ e) (h2 : e ≤ n) (h3 : n ≤ 10000) : m + 1 ≤ maxLen ∧ (m + 1) * 8 ≤ 140737488355328 := ⟨by simp only [maxLen]; omega, by omega⟩
set_option maxRecDepth 100000 in
set_option maxHeartbeats 8000000 in
theorem scan_ok (t : List UInt8) (W : World) (hN : ∀ w, Below W.heap.size W w → NewW w) (hn : t.length ≤ 10000) : Calls Tryz.prog 63 #[.string ⟨t.toArray⟩] W (ScanPost t W) := by
  obtain ⟨s, hs⟩ : ∃ s : ByteArray, (⟨t.toArray⟩ : ByteArray) = s := ⟨_, rfl⟩
  have hss : s.size = t.length := size_mk t s hs
  rw [hs]
  have HS := Lib.hid hs; have HSS := Lib.hid hss; have HN := Lib.hid hN; have HLT := Lib.hid hn
  clear hs hss hN hn
  obtain ⟨i0, hI0, hz0, hz1, hz2⟩ := info_parts int_info
  go_enter Tryz.func63, Tryz.ntmps63
  go_wp2_with (go_at_call 59; refine (HN.out _ ((Below.refl _ W).alloc (Nat.le_refl _) _)).mono ?_; rintro e w1 ⟨d, x, y, rfl, hd, hb⟩; have HD := Lib.hid hd; have HB := Lib.hid hb; clear hd hb)
  go_loopw [] (fun wr => ∃ (e f m : Nat) (A1 : Option Addr) (c1 : Nat) (A2 : Option Addr) (c2 : Nat) (ats cls : List Int), SL w1 s (s.size : Int) e m m (.slice A1 m c1) (.slice A2 m c2) (.slice A1 m c1) (.slice A2 m c2) ats cls wr ∧ e ≤ s.size ∧ s.size < f + e + 1 ∧ m ≤ e) (fun wr => s.size - wr.iterPos (w1.heap.size + 1))
  case atStart =>
    refine ⟨0, s.size, 0, none, 0, none, 0, [], [], ⟨?_, ?_, ?_, ⟨rfl, .inl ⟨rfl, rfl⟩⟩, ⟨rfl, .inl ⟨rfl, rfl⟩⟩, fun _ h => by cases h⟩, Nat.zero_le _, by omega, Nat.le_refl _⟩
    · exact ((Below.refl _ w1).alloc (Nat.le_refl _) _).alloc (by simp) _
    · have := heap_alloc_new (w1.alloc (.cells #[.slice none 0 0, .slice none 0 0, .int .i64 (s.size : Int)] 97)) (.stringIter s 0)
      rw [World.size_alloc] at this
      exact this
    · exact (Below.heap_alloc _ _ _ (by simp)).trans (heap_alloc_new _ _)
  case round =>
    obtain ⟨e, f, m, A1, c1, A2, c2, ats, cls, hSL, he, hf, hm⟩ := hrel
    have hit := hSL.it
    have HSL := Lib.hid hSL
    by_cases hlt : e < s.size
    · clear hSL
      have hnx := fun ty => run_next_any_at (P := Tryz.prog) wr _ s e ty hit hlt
      rw [decode_drop t e s HS.out] at hnx
      have hne2 : t.drop e ≠ [] := by intro c; rw [List.drop_eq_nil_iff] at c; have := HSS.out; omega
      have hd1 := dec_pos (t.drop e)
      have hd2 := dec_le (t.drop e) hne2
      rw [List.length_drop, ← HSS.out] at hd2
      obtain ⟨r, hr⟩ : ∃ r : Int, ((dec (t.drop e)).1 : Int) = r := ⟨_, rfl⟩
      obtain ⟨wd, hwd⟩ : ∃ wd, (dec (t.drop e)).2 = wd := ⟨_, rfl⟩
      rw [hwd] at hd1 hd2
      rw [hr, hwd] at hnx
      obtain ⟨ew, hew⟩ : ∃ ew, e + wd = ew := ⟨_, rfl⟩
      rw [hew] at hnx
      obtain ⟨cx, hcx⟩ : ∃ cx, clsOf rangedW (runeOr r) = cx := ⟨_, rfl⟩
      have HCX := Lib.hid hcx
      have HLEN := Lib.hid (LEN8 hm he (by rw [HSS.out]; exact HLT.out))
      have HSI := Lib.hid (HSL.out.iter ew)
      obtain ⟨j0, j1, j2, j3, j4⟩ := HSI.out.box
      have j3' := j3 0
      have hq2 : wr.iterPos (w1.heap.size + 1) = e := by unfold World.iterPos; rw [hit]
      have KEY := Lib.hid (fun (B1 : Option Addr) (d1 : Nat) (B2 : Option Addr) (d2 : Nat) (w' : World) (h : SL w1 s (s.size : Int) ew (m + 1) (m + 1) (.slice B1 (m + 1) d1) (.slice B2 (m + 1) d2) (.slice B1 (m + 1) d1) (.slice B2 (m + 1) d2) (ats ++ [(e : Int)]) (cls ++ [cx]) w') =>
        show (∃ (e f m : Nat) (A1 : Option Addr) (c1 : Nat) (A2 : Option Addr) (c2 : Nat) (ats cls : List Int), SL w1 s (s.size : Int) e m m (.slice A1 m c1) (.slice A2 m c2) (.slice A1 m c1) (.slice A2 m c2) ats cls w' ∧ e ≤ s.size ∧ s.size < f + e + 1 ∧ m ≤ e) ∧ s.size - w'.iterPos (w1.heap.size + 1) < s.size - wr.iterPos (w1.heap.size + 1) from by
          refine ⟨⟨ew, s.size, m + 1, B1, d1, B2, d2, _, _, h, by omega, by omega, by omega⟩, ?_⟩
          have q1 : w'.iterPos (w1.heap.size + 1) = ew := by unfold World.iterPos; rw [h.it]
          rw [q1, hq2]; omega)
      clear hr hwd hew hcx j3 hd1 hd2 hne2 hf hm he hq2
      go_wp2_with (at_builtin; refine wpList_app _ rfl (.tmp 24) (.tmp 26) 30 rfl w1.heap.size 3 i0 _ 8 Tryz.underlying30 hI0 hz0 hz1 hz2 rfl (.slice A1 m c1) m (intsW ats) rfl HSI.out.alloc1 _ 1 1 [.int .i64 e] rfl (src_one _ _ _) (by simp [Value.oneCell']) HLEN.out.1 HLEN.out.2 (by rw [World.size_alloc]; have := HSI.out.bel.size; omega) ?_; intro v' wp ho hg hn; obtain ⟨B1, d1, rfl, _⟩ := own_slice3 ho; have HSP := Lib.hid (HSI.out.grow1 ho hg hn); clear ho hg hn hnx j0 j1 j2 j3' j4 hit; obtain ⟨p0, p1, p2, p3, p4⟩ := HSP.out.box; have p3' := p3 0; clear p3)
      have HSQ := Lib.hid (HSP.out.set1 (.slice B1 (m + 1) d1)).drew
      clear p0 p1 p2 p3' p4
      refine wp_region_any (by kernel_rfl) ?_
      change wpAny _ _ _ _ _ _ _ (World.drew _)
      obtain ⟨wq, hwq⟩ : ∃ wq, (wp.setCell ⟨w1.heap.size, 0, none⟩ (.slice B1 (m + 1) d1)).drew = wq := ⟨_, rfl⟩
      rw [hwq] at HSQ ⊢
      clear hwq
      obtain ⟨y0, y1, y2, y3, y4⟩ := HSQ.out.box
      clear y3
      refine wpAny_take (i := 0) (v := ?_) rfl (by kernel_rfl) (by kernel_rfl) (by kernel_rfl) (fun _ _ _ h => h) (Or.inl ⟨by kernel_rfl, ?_⟩) ?_
      rotate_left
      · intro w; go_simp; try with_reducible rfl
      (try simp only [Act.put]); (try simp only [List.setIfInBounds_toArray]); (try simp only [List.set_cons_succ]); (try simp only [List.set_cons_zero])
      refine wpAny_take (i := 2) (v := ?_) rfl (by kernel_rfl) (by kernel_rfl) (by kernel_rfl) (fun _ _ _ h => h) (Or.inl ⟨by kernel_rfl, ?_⟩) ?_
      rotate_left
      · intro w; go_simp; try with_reducible rfl
      (try simp only [Act.put]); (try simp only [List.setIfInBounds_toArray]); (try simp only [List.set_cons_succ]); (try simp only [List.set_cons_zero])
      refine wpAny_take (i := 3) (v := ?_) rfl (by kernel_rfl) (by kernel_rfl) (by kernel_rfl) (fun _ _ _ h => h) (Or.inl ⟨by kernel_rfl, ?_⟩) ?_
      rotate_left
      · intro w; go_simp; try with_reducible rfl
      (try simp only [Act.put]); (try simp only [List.setIfInBounds_toArray]); (try simp only [List.set_cons_succ]); (try simp only [List.set_cons_zero])
      refine wpAny_ready (rs := [1, 4]) (by kernel_rfl) (by simp) ?_
      refine AllReady.cons rfl (fun K hK => ?_) ?_
      · go_simp
        refine hK _ _ ?_; clear hK K
        refine wpAny_ready (rs := [4]) (by kernel_rfl) (by simp) ?_
        refine AllReady.cons rfl (fun K hK => ?_) ?_
        · go_simp
          refine (Get_ok rangedW rangedW_asc r _ _ rfl (by decide +kernel) _ (dbAt_below HD.out HSQ.out.bel)).mono ?_
          rintro x wz ⟨rfl, hbz⟩
          rw [HCX.out]
          have HSZ := Lib.hid (HSQ.out.below hbz); clear hbz
          obtain ⟨z0, z1, z2, z3, z4⟩ := HSZ.out.box
          dsimp only
          refine hK _ _ ?_; clear hK K
          refine wpAny_ready (rs := [5]) (by kernel_rfl) (by simp) ?_
          refine AllReady.cons rfl (fun K hK => ?_) ?_
          · go_simp
            refine hK _ _ ?_; clear hK K
            refine wpAny_ready (rs := [6]) (by kernel_rfl) (by simp) ?_
            refine AllReady.cons rfl (fun K hK => ?_) ?_
            · skip
              refine wp_app _ (.tmp 30) (.tmp 34) 30 rfl w1.heap.size 3 i0 _ 8 Tryz.underlying30 hI0 hz0 hz1 hz2 rfl (.slice A2 m c2) m (intsW cls) rfl HSZ.out.alloc2 (some ⟨wz.heap.size, 0, none⟩) 1 1 [.int .i64 cx] rfl (src_one _ _ _) (by simp [Value.oneCell']) HLEN.out.1 HLEN.out.2 (by rw [World.size_alloc]; have := HSZ.out.bel.size; omega) ?_
              intro v' wq ho hg hn
              obtain ⟨B2, d2, rfl, _⟩ := own_slice3 ho
              have HSR := Lib.hid (HSZ.out.grow2 ho hg hn); clear ho hg hn
              obtain ⟨q0, q1, q2, q3, q4⟩ := HSR.out.box
              have q3' := q3 1; clear q3
              refine hK _ _ ?_; clear hK K
              refine wpAny_take (i := 7) (v := ?_) rfl (by kernel_rfl) (by kernel_rfl) (by kernel_rfl) (fun _ _ _ h => h) (Or.inl ⟨by kernel_rfl, ?_⟩) ?_
              rotate_left
              · intro w; go_simp; try with_reducible rfl
              (try simp only [Act.put]); (try simp only [List.setIfInBounds_toArray]); (try simp only [List.set_cons_succ]); (try simp only [List.set_cons_zero])
              refine wpAny_ready (rs := [8]) (by kernel_rfl) (by simp) ?_
              refine AllReady.cons rfl (fun K hK => ?_) ?_
              · go_simp
                refine hK _ _ ?_; clear hK K
                refine wpAny_done (by kernel_rfl) ?_ _
                go_wp2_with fail
                exact KEY.out _ _ _ _ _ (HSR.out.set2 _)
              exact AllReady.nil
            exact AllReady.nil
          exact AllReady.nil
        exact AllReady.nil
      refine AllReady.cons rfl (fun K hK => ?_) ?_
      · go_simp
        refine (Get_ok rangedW rangedW_asc r _ _ rfl (by decide +kernel) _ (dbAt_below HD.out HSQ.out.bel)).mono ?_
        rintro x wz ⟨rfl, hbz⟩
        rw [HCX.out]
        have HSZ := Lib.hid (HSQ.out.below hbz); clear hbz
        obtain ⟨z0, z1, z2, z3, z4⟩ := HSZ.out.box
        dsimp only
        refine hK _ _ ?_; clear hK K
        refine wpAny_ready (rs := [1, 5]) (by kernel_rfl) (by simp) ?_
        refine AllReady.cons rfl (fun K hK => ?_) ?_
        · go_simp
          refine hK _ _ ?_; clear hK K
          refine wpAny_ready (rs := [5]) (by kernel_rfl) (by simp) ?_
          refine AllReady.cons rfl (fun K hK => ?_) ?_
          · go_simp
            refine hK _ _ ?_; clear hK K
            refine wpAny_ready (rs := [6]) (by kernel_rfl) (by simp) ?_
            refine AllReady.cons rfl (fun K hK => ?_) ?_
            · skip
              refine wp_app _ (.tmp 30) (.tmp 34) 30 rfl w1.heap.size 3 i0 _ 8 Tryz.underlying30 hI0 hz0 hz1 hz2 rfl (.slice A2 m c2) m (intsW cls) rfl HSZ.out.alloc2 (some ⟨wz.heap.size, 0, none⟩) 1 1 [.int .i64 cx] rfl (src_one _ _ _) (by simp [Value.oneCell']) HLEN.out.1 HLEN.out.2 (by rw [World.size_alloc]; have := HSZ.out.bel.size; omega) ?_
              intro v' wq ho hg hn
              obtain ⟨B2, d2, rfl, _⟩ := own_slice3 ho
              have HSR := Lib.hid (HSZ.out.grow2 ho hg hn); clear ho hg hn
              obtain ⟨q0, q1, q2, q3, q4⟩ := HSR.out.box
              have q3' := q3 1; clear q3
              refine hK _ _ ?_; clear hK K
              refine wpAny_take (i := 7) (v := ?_) rfl (by kernel_rfl) (by kernel_rfl) (by kernel_rfl) (fun _ _ _ h => h) (Or.inl ⟨by kernel_rfl, ?_⟩) ?_
              rotate_left
              · intro w; go_simp; try with_reducible rfl
              (try simp only [Act.put]); (try simp only [List.setIfInBounds_toArray]); (try simp only [List.set_cons_succ]); (try simp only [List.set_cons_zero])
              refine wpAny_ready (rs := [8]) (by kernel_rfl) (by simp) ?_
              refine AllReady.cons rfl (fun K hK => ?_) ?_
              · go_simp
                refine hK _ _ ?_; clear hK K
                refine wpAny_done (by kernel_rfl) ?_ _
                go_wp2_with fail
                exact KEY.out _ _ _ _ _ (HSR.out.set2 _)
              exact AllReady.nil
            exact AllReady.nil
          exact AllReady.nil
        refine AllReady.cons rfl (fun K hK => ?_) ?_
        · go_simp
          refine hK _ _ ?_; clear hK K
          refine wpAny_ready (rs := [1]) (by kernel_rfl) (by simp) ?_
          refine AllReady.cons rfl (fun K hK => ?_) ?_
          · go_simp
            refine hK _ _ ?_; clear hK K
            refine wpAny_ready (rs := [6]) (by kernel_rfl) (by simp) ?_
            refine AllReady.cons rfl (fun K hK => ?_) ?_
            · skip
              refine wp_app _ (.tmp 30) (.tmp 34) 30 rfl w1.heap.size 3 i0 _ 8 Tryz.underlying30 hI0 hz0 hz1 hz2 rfl (.slice A2 m c2) m (intsW cls) rfl HSZ.out.alloc2 (some ⟨wz.heap.size, 0, none⟩) 1 1 [.int .i64 cx] rfl (src_one _ _ _) (by simp [Value.oneCell']) HLEN.out.1 HLEN.out.2 (by rw [World.size_alloc]; have := HSZ.out.bel.size; omega) ?_
              intro v' wq ho hg hn
              obtain ⟨B2, d2, rfl, _⟩ := own_slice3 ho
              have HSR := Lib.hid (HSZ.out.grow2 ho hg hn); clear ho hg hn
              obtain ⟨q0, q1, q2, q3, q4⟩ := HSR.out.box
              have q3' := q3 1; clear q3
              refine hK _ _ ?_; clear hK K
              refine wpAny_take (i := 7) (v := ?_) rfl (by kernel_rfl) (by kernel_rfl) (by kernel_rfl) (fun _ _ _ h => h) (Or.inl ⟨by kernel_rfl, ?_⟩) ?_
              rotate_left
              · intro w; go_simp; try with_reducible rfl
              (try simp only [Act.put]); (try simp only [List.setIfInBounds_toArray]); (try simp only [List.set_cons_succ]); (try simp only [List.set_cons_zero])
              refine wpAny_ready (rs := [8]) (by kernel_rfl) (by simp) ?_
              refine AllReady.cons rfl (fun K hK => ?_) ?_
              · go_simp
                refine hK _ _ ?_; clear hK K
                refine wpAny_done (by kernel_rfl) ?_ _
                go_wp2_with fail
                exact KEY.out _ _ _ _ _ (HSR.out.set2 _)
              exact AllReady.nil
            exact AllReady.nil
          exact AllReady.nil
        exact AllReady.nil
      exact AllReady.nil
    · obtain rfl : e = s.size := by omega
      obtain ⟨j0, j1, j2, j3, j4⟩ := hSL.box
      have hW1 : W.heap.size < w1.heap.size := by have := HB.out.size; rw [World.size_alloc] at this; omega
      have hblk : wr.heap[W.heap.size]? = some (.cells #[.slice none 0 0, .slice none 0 0, .int .i64 0] 97 (0, 0)) := (hSL.bel.block _ hW1).trans ((HB.out.block _ (by simp)).trans (heap_alloc_new W _))
      have r0 := cell_of_row wr W.heap.size 0 _ _ _ hblk
      have r1 := cell_of_row wr W.heap.size 1 _ _ _ hblk
      have r2 := cell_of_row wr W.heap.size 2 _ _ _ hblk
      have f0 := frozen_of_row wr W.heap.size 0 _ _ hblk
      have f1 := frozen_of_row wr W.heap.size 1 _ _ hblk
      have f2 := frozen_of_row wr W.heap.size 2 _ _ hblk
      have h3 := heap_lt hblk
      have hnx := fun ty => run_next_end_at (P := Tryz.prog) wr _ s s.size ty hit hlt
      have HBW := Lib.hid (HB.out.trans (hSL.bel.mono HB.out.size))
      have HBLK := Lib.hid hblk
      have HM := Lib.hid hm
      clear j3 hblk hSL hf he hm hlt
      go_wp2_with fail
      have hh := heap_setCell_same _ _ 2 _ _ (.int .i64 (s.size : Int)) (heap_setCell_same _ _ 1 _ _ (.slice A2 m c2) (heap_setCell_same wr _ 0 _ _ (.slice A1 m c1) HBLK.out))
      refine bodyPost_ret (results_cell_row rfl _ _ W.heap.size _ _ _ _ rfl hh Tryz.underlying97 rfl (by kernel_rfl)) rfl ?_
      have hmm : m ≤ 100000 := by have := HM.out; have := HSS.out; have := HLT.out; omega
      refine ⟨A1, m, c1, A2, c2, ats, cls, by have := HM.out; have := HSS.out; have := HLT.out; omega, by rw [← HSS.out]; rfl, ints_own (base := w1.heap.size) (c := c1) ?_ hmm, ints_own (base := w1.heap.size) (c := c2) ?_ hmm, ?_⟩
      · exact ownsRow_setCell_below (ownsRow_setCell_below (ownsRow_setCell_below HSL.out.o1 hW1 _) hW1 _) hW1 _
      · exact ownsRow_setCell_below (ownsRow_setCell_below (ownsRow_setCell_below HSL.out.o2 hW1 _) hW1 _) hW1 _
      · have hb0 : Below W.heap.size W w1 := ((Below.refl _ W).alloc (Nat.le_refl _) _).trans (HB.out.mono (by simp))
        have hb1 : Below W.heap.size W wr := hb0.trans (HSL.out.bel.mono (Nat.le_of_lt hW1))
        exact ((hb1.setCell (Nat.le_refl _) _).setCell (Nat.le_refl _) _).setCell (Nat.le_refl _) _
end
section
open Go.Shelf Go.RowKit Go.Lib Go.Proofs.YtnfghboholehdaaGreatDoor.Am
/-- the loop's state: the box of the text, the row of bounds -/
structure BL (w1 : World) (x1 x2 : Value) (L : Int) (v : Value) (m : Nat) (zs : List Int) (w : World) : Prop where
  bel : Below w1.heap.size w1 w
  blk : w.heap[w1.heap.size]? = some (.cells #[x1, x2, .int .i64 L] 97 (0, 0))
  own : w.ownsRow w1.heap.size 3 1 v m (intsW zs)
section
variable {w1 w w' : World} {x1 x2 v : Value} {L : Int} {m : Nat} {zs : List Int}
theorem BL.below (h : BL w1 x1 x2 L v m zs w) (hb : Below w.heap.size w w') : BL w1 x1 x2 L v m zs w' :=
  ⟨h.bel.trans (hb.mono h.bel.size), below_blk hb h.blk, own_below hb h.own⟩
theorem BL.alloc1 (h : BL w1 x1 x2 L v m zs w) {o : Obj} : (w.alloc o).ownsRow w1.heap.size 3 1 v m (intsW zs) := own_alloc h.own
theorem BL.box (h : BL w1 x1 x2 L v m zs w) : w.cell? ⟨w1.heap.size, 0, none⟩ = some x1 ∧ w.cell? ⟨w1.heap.size, 1, none⟩ = some x2 ∧ w.cell? ⟨w1.heap.size, 2, none⟩ = some (.int .i64 L) ∧ w1.heap.size < w.heap.size :=
  ⟨by rw [cell_of_row _ _ _ _ _ _ h.blk]; rfl, by rw [cell_of_row _ _ _ _ _ _ h.blk]; rfl, by rw [cell_of_row _ _ _ _ _ _ h.blk]; rfl, heap_lt h.blk⟩
theorem BL.grow (h : BL w1 x1 x2 L v m zs w) {o : Obj} {v' : Value} {x : Int} (ho : w'.ownsRow w1.heap.size 3 1 v' (m + 1) (intsW zs ++ [.int .i64 x])) (hg : (w.alloc o).grownBy w' v.ownBlock) : BL w1 x1 x2 L v' (m + 1) (zs ++ [x]) w' := by
  have h' := h.below ((Below.refl _ w).alloc (Nat.le_refl _) o)
  refine ⟨h'.bel.grown hg h'.bel.size (fun k hk => (own_lt h'.own hk).1), ?_, by rw [intsW_app]; exact ho⟩
  rw [hg.block _ (heap_lt h'.blk) (own_ne h'.own h'.blk (fun _ h => by injection h with _ h; exact absurd h (by decide)))]; exact h'.blk
end
theorem LENB {m e n : Nat} (h1 : m ≤ e) (h2 : e ≤ n) (h3 : n ≤ 100000) : m + 1 ≤ maxLen ∧ (m + 1) * 8 ≤ 140737488355328 := ⟨by simp only [maxLen]; omega, by omega⟩
set_option maxRecDepth 100000 in
set_option maxHeartbeats 8000000 in
theorem Bounds_ok (t : List UInt8) (W : World) (hN : ∀ w, Below W.heap.size W w → NewW w) (hn : t.length ≤ 10000) : Calls Tryz.prog 30 #[.string ⟨t.toArray⟩] W (BoundsPost W) := by
  have HSC := Lib.hid (scan_ok t W hN hn)
  obtain ⟨s, hs⟩ : ∃ s : ByteArray, (⟨t.toArray⟩ : ByteArray) = s := ⟨_, rfl⟩
  have hss : s.size ≤ 10000 := by rw [size_mk t s hs]; exact hn
  rw [hs] at HSC ⊢
  have HSS := Lib.hid hss
  clear hs hss hN hn
  obtain ⟨i0, hI0, hz0, hz1, hz2⟩ := info_parts int_info
  go_enter Tryz.func30, Tryz.ntmps30
  go_wp2_with (go_at_call 63; refine HSC.out.mono ?_; rintro e w1 ⟨A1, m, c1, A2, c2, ats, cls, hm4, rfl, h1, h2, hb⟩; have H1 := Lib.hid h1; have H2 := Lib.hid h2; have HB := Lib.hid hb; clear h1 h2 hb)
  obtain ⟨L, hL⟩ : ∃ L : Int, (t.length : Int) = L := ⟨_, rfl⟩
  rw [hL]
  clear hL
  have hsm := H1.out.small
  go_loopw [12, 4] (fun vi vo wr => ∃ (k mo : Nat) (Ao : Option Addr) (co : Nat) (zs : List Int), k ≤ m ∧ vi = .int .i64 k ∧ vo = .slice Ao mo co ∧ mo ≤ k ∧ BL w1 (.slice A1 m c1) (.slice A2 m c2) L (.slice Ao mo co) mo zs wr) (fun vi _ _ => m - (RowKit.intOf vi).toNat)
  case atStart =>
    exact ⟨0, 0, none, 0, [], Nat.zero_le _, rfl, rfl, Nat.le_refl _, (Below.refl _ w1).alloc (Nat.le_refl _) _, heap_alloc_new w1 _, ⟨rfl, .inl ⟨rfl, rfl⟩⟩⟩
  case round =>
    obtain ⟨k, mo, Ao, co, zs, hk, rfl, rfl, hmo, hBL⟩ := hrel
    have HBL := Lib.hid hBL; clear hBL
    by_cases hlt : k < m
    · obtain ⟨g1, o1, rfl, hg1, hc1⟩ := H1.out.at_ (by omega)
      obtain ⟨g2, o2, rfl, hg2, hc2⟩ := H2.out.at_ (by omega)
      have ca : wr.cell? ⟨g1, o1 + k, none⟩ = some (.int .i64 (ats.getD k 0)) := (HBL.out.bel.cell (p := ⟨g1, o1 + k, none⟩) hg1).trans (hc1 k hlt)
      obtain ⟨a, ha⟩ : ∃ a, ats.getD k 0 = a := ⟨_, rfl⟩
      rw [ha] at ca
      have HCL := Lib.hid (ClsAt.below ⟨H2.out.len, H2.out.small, hg2, hc2⟩ hg2 HBL.out.bel)
      clear ha hc1 hc2 hg1 hg2
      obtain ⟨b0, b1, b2, b3⟩ := HBL.out.box
      have HLEN := Lib.hid (LENB hmo hk hsm)
      obtain ⟨k', hk'⟩ : ∃ k', k + 1 = k' := ⟨_, rfl⟩
      have hwk : (k : Int) + 1 = (k' : Int) := by omega
      have HWK := Lib.hid hwk; clear hwk
      have KEY := Lib.hid (fun (mo' : Nat) (Ao' : Option Addr) (co' : Nat) (zs' : List Int) (w' : World) (h1 : mo' ≤ k') (h : BL w1 (.slice (some ⟨g1, o1, none⟩) m c1) (.slice (some ⟨g2, o2, none⟩) m c2) L (.slice Ao' mo' co') mo' zs' w') =>
        show (∃ (k mo : Nat) (Ao : Option Addr) (co : Nat) (zs : List Int), k ≤ m ∧ Value.int .i64 (k' : Int) = .int .i64 k ∧ Value.slice Ao' mo' co' = .slice Ao mo co ∧ mo ≤ k ∧ BL w1 (.slice (some ⟨g1, o1, none⟩) m c1) (.slice (some ⟨g2, o2, none⟩) m c2) L (.slice Ao mo co) mo zs w') ∧ m - (RowKit.intOf (.int .i64 (k' : Int))).toNat < m - (RowKit.intOf (.int .i64 (k : Int))).toNat from
          ⟨⟨k', mo', Ao', co', zs', by omega, rfl, rfl, h1, h⟩, by simp [RowKit.intOf]; omega⟩)
      have hmk : mo + 1 ≤ k' := by omega
      have hmk2 : mo ≤ k' := by omega
      have HMK := Lib.hid (And.intro hmk hmk2)
      clear hmk hmk2 hmo hk hk'
      rcases Nat.eq_zero_or_pos k with h0 | h0
      · have hk0 : ((k : Int) == 0) = true := by simp [h0]
        have hk1 : (k : Int) = 0 := by omega
        have HK1 := Lib.hid hk1; clear hk1 h0
        go_wp2_with (at_builtin; refine wpList_app _ rfl (.tmp 24) (.tmp 26) 30 rfl w1.heap.size 3 i0 _ 8 Tryz.underlying30 hI0 hz0 hz1 hz2 rfl (.slice Ao mo co) mo (intsW zs) rfl HBL.out.alloc1 _ 1 1 [.int .i64 a] rfl (src_one _ _ _) (by simp [Value.oneCell']) HLEN.out.1 HLEN.out.2 (by rw [World.size_alloc]; have := HBL.out.bel.size; omega) ?_; intro v' wp ho hg hn; obtain ⟨B1, d1, rfl, _⟩ := own_slice3 ho; have HBG := Lib.hid (HBL.out.grow ho hg); clear ho hg hn ca b0 b1 b2 b3)
        rw [HWK.out]
        exact KEY.out _ _ _ _ _ HMK.out.1 HBG.out
      · have hk0 : ((k : Int) == 0) = false := by simp; omega
        have hk1 : ¬ (k : Int) = 0 := by omega
        go_wp2_with (first | (go_at_call 64; refine (cut_ok cls _ _ _ _ _ _ _ _ k _ HCL.out h0 hlt).mono ?_; rintro e w2 ⟨b, rfl, hb⟩; have HBL := Lib.hid (HBL.out.below hb); clear hb; cases b) | (at_builtin; refine wpList_app _ rfl (.tmp 24) (.tmp 26) 30 rfl w1.heap.size 3 i0 _ 8 Tryz.underlying30 hI0 hz0 hz1 hz2 rfl (.slice Ao mo co) mo (intsW zs) rfl HBL.out.alloc1 _ 1 1 [.int .i64 a] rfl (src_one _ _ _) (by simp [Value.oneCell']) HLEN.out.1 HLEN.out.2 (by rw [World.size_alloc]; have := HBL.out.bel.size; omega) ?_; intro v' wp ho hg hn; obtain ⟨B1, d1, rfl, _⟩ := own_slice3 ho; have HBG := Lib.hid (HBL.out.grow ho hg); clear ho hg hn ca b0 b1 b2 b3))
        · rw [HWK.out]
          exact KEY.out _ _ _ _ _ HMK.out.2 HBL.out
        · rw [HWK.out]
          exact KEY.out _ _ _ _ _ HMK.out.1 HBG.out
    · obtain rfl : k = m := by omega
      have HLEN := Lib.hid (LENB hmo hk hsm)
      have HMO := Lib.hid (show mo + 1 ≤ 100000 by omega)
      have HFIN := Lib.hid (fun (A : Option Addr) (n c : Nat) (z : List Int) (w' : World) (hn : n ≤ 100000) (h : BL w1 (.slice A1 k c1) (.slice A2 k c2) L (.slice A n c) n z w') =>
        show BoundsPost W (.returned (.slice A n c)) w' from
          ⟨A, n, c, z, rfl, ints_own h.own hn, fun a ha => by subst ha; exact Nat.le_trans HB.out.size (own_lt h.own rfl).1, HB.out.trans (h.bel.mono HB.out.size)⟩)
      clear hk hlt hmo hsm hm4
      by_cases hs0 : 0 < s.size
      · go_wp2_with (at_builtin; refine wpList_app _ rfl (.tmp 32) (.tmp 35) 30 rfl w1.heap.size 3 i0 _ 8 Tryz.underlying30 hI0 hz0 hz1 hz2 rfl (.slice Ao mo co) mo (intsW zs) rfl HBL.out.alloc1 _ 1 1 [.int .i64 s.size] rfl (src_one _ _ _) (by simp [Value.oneCell']) HLEN.out.1 HLEN.out.2 (by rw [World.size_alloc]; have := HBL.out.bel.size; omega) ?_; intro v' wp ho hg hn; obtain ⟨B1, d1, rfl, _⟩ := own_slice3 ho; have HBG := Lib.hid (HBL.out.grow ho hg); clear ho hg hn)
        go_ret
        exact HFIN.out _ _ _ _ _ HMO.out HBG.out
      · skip
        go_wp2_with fail
        go_ret
        exact HFIN.out _ _ _ _ _ (Nat.le_of_succ_le HMO.out) HBL.out
end
section
open Go.Shelf Go.RowKit Go.Lib Go.Proofs.YtnfghboholehdaaGreatDoor.Am
theorem encT_len (ch fin : Nat → Bool) (i r : Nat) : (encT ch fin i r).length ≤ 12 := by
  unfold encT
  split
  · exact Nat.le_trans (encL_len _) (by have := formV_len r 2; omega)
  · exact encW_len 0 fin i r
theorem IntsR.fr {w w' : World} {A : Option Addr} {n b : Nat} {zs : List Int} (h : IntsR w A n zs) (hA : ∀ a, A = some a → b ≤ a.block) (hf : Fr (fun k => k < b) w w') : IntsR w' A n zs := by
  refine ⟨h.len, h.small, fun h0 => ?_⟩
  obtain ⟨g, o, rfl, hg, hc⟩ := h.at_ h0
  have hb := hA _ rfl
  exact ⟨g, o, rfl, Nat.lt_of_lt_of_le hg hf.size, fun j hj => by rw [hf.cell (p := ⟨g, o + j, none⟩) hg (Nat.not_lt.2 hb)]; exact hc j hj⟩
/-- the loop's state -/
structure TS (w1 w2 w3 : World) (n c : Nat) (A2 : Option Addr) (L : List Pc) (w : World) : Prop where
  bel : Below w1.heap.size w1 w
  fr : Fr (fun k => k < w2.heap.size) w3 w
  own : w.ownsRow w1.heap.size 46 3 (.slice A2 n c) n (piecesV L)
  lt : ∀ a, A2 = some a → a.block < w2.heap.size
section
variable {w1 w2 w3 w w' : World} {n c : Nat} {A2 : Option Addr} {L : List Pc}
theorem TS.below (h : TS w1 w2 w3 n c A2 L w) (hb : Below w.heap.size w w') : TS w1 w2 w3 n c A2 L w' :=
  ⟨h.bel.trans (hb.mono h.bel.size), h.fr.trans (Fr.of_below hb (Nat.le_refl _)), own_below hb h.own, h.lt⟩
theorem TS.alloc (h : TS w1 w2 w3 n c A2 L w) (o : Obj) : TS w1 w2 w3 n c A2 L (w.alloc o) := h.below ((Below.refl _ w).alloc (Nat.le_refl _) o)
theorem TS.set {g k : Nat} {A B : List Pc} {p : Pc} (h : TS w1 w2 w3 n c (some ⟨g, 0, none⟩) (A ++ p :: B) w) (hA : A.length = k) (X : List UInt8) : TS w1 w2 w3 n c (some ⟨g, 0, none⟩) ((A ++ [(p.1, p.2.1, X)]) ++ B) (w.setCell ⟨g, k * 3 + 2, none⟩ (.string ⟨X.toArray⟩)) :=
  have hb : w1.heap.size ≤ g := (own_lt h.own (g := g) rfl).1
  have hl : g < w2.heap.size := h.lt ⟨g, 0, none⟩ rfl
  ⟨h.bel.setCell (p := ⟨g, k * 3 + 2, none⟩) hb _, h.fr.trans (Fr.set w ⟨g, k * 3 + 2, none⟩ _ (fun _ => hl)), (RowK.mk h.own hA).set X, h.lt⟩
end
set_option maxRecDepth 100000 in
set_option maxHeartbeats 8000000 in
theorem Title_ok (t : List UInt8) (W : World) (ho : OpensW W) (hT : Lib.Utf8Tabs 0 1 W) (hn : t.length ≤ 10000) (hbd : ∀ w, Below W.heap.size W w → Calls Tryz.prog 30 #[.string ⟨t.toArray⟩] w (BoundsPost w)) : Calls Tryz.prog 9 #[.string ⟨t.toArray⟩] W (TitlePost t W) := by
  have HT := Lib.hid hT; have HO := Lib.hid ho; have HN := Lib.hid hn; have HBD := Lib.hid hbd; clear hT ho hn hbd
  have HL := Lib.hid (pcs_len (encW 0 (finalF (runesOf t))) (encW_len 0 _) t t.length 0 0)
  obtain ⟨l, hl⟩ : ∃ l, pcsOf 0 (finalF (runesOf t)) t = l := ⟨_, rfl⟩
  have HLL := Lib.hid (show l.length ≤ 10000 by rw [← hl]; exact Nat.le_trans HL.out.2 HN.out)
  have HDONE := Lib.hid (fun (A : List Pc) (h : TitL l l.length A) => show ∃ ch, A = pcs (encT ch (finalF (runesOf t))) t t.length 0 0 by subst hl; exact h.done)
  have HLE := Lib.hid hl; clear hl HL
  obtain ⟨n, hn⟩ : ∃ n, l.length = n := ⟨_, rfl⟩
  have HNN := Lib.hid hn; clear hn
  go_enter Tryz.func9, Tryz.ntmps9
  go_wp2_with (first
    | (go_at_call 28; refine HO.out.mono ?_; rintro e w1 ⟨v, rfl, h1, h2⟩; obtain ⟨B, o, rfl, _⟩ := id h1; have H1 := Lib.hid h1; have B1 := Lib.hid h2; clear h1 h2)
    | (go_at_call 29; refine (write_zero t (finalF (runesOf t)) _ _ (openW_P H1.out) (tabs_below B1.out HT.out) (Nat.le_trans HN.out (by decide)) (finals_ok _ (Nat.le_trans (runesOf_len t) (Nat.le_trans HN.out (by decide))) _ _ H1.out)).mono ?_; rintro e w2 ⟨v2, rfl, hown, h2⟩; rw [HLE.out, HNN.out] at hown; have B2 := Lib.hid h2; clear h2; obtain ⟨A2, c2, rfl, _⟩ := own_slice3 hown; have OW := Lib.hid hown; clear hown)
    | (go_at_call 30; refine (HBD.out _ (B1.out.trans (B2.out.mono B1.out.size))).mono ?_; rintro e w3 ⟨A5, n5, c5, zs, rfl, hz, hge, h3⟩; have HZ := Lib.hid (fun (w : World) (hf : Fr (fun k => k < w2.heap.size) w3 w) => hz.fr hge hf); have HTS := Lib.hid (TS.mk (w1 := w1) (w2 := w2) (w3 := w3) (n := n) (c := c2) (A2 := A2) (L := l) (w := w3) (B2.out.trans (h3.mono B2.out.size)) (Fr.refl _ _) (own_below h3 OW.out) (fun a ha => by subst ha; exact (own_lt OW.out rfl).2.1)); clear hz hge h3))
  have HNL := Lib.hid (show n ≤ 10000 by rw [← HNN.out]; exact HLL.out)
  have HBK := Lib.hid (fun (w : World) (hb : Below w1.heap.size w1 w) => openW_P (openW_below H1.out hb))
  clear HLL H1
  go_loopw [19, 6] (fun vi vb wr => ∃ (k : Nat) (bg : Bool) (A : List Pc), k ≤ n ∧ vi = .int .i64 k ∧ vb = .bool bg ∧ TitL l k A ∧ TS w1 w2 w3 n c2 A2 (A ++ l.drop k) wr) (fun vi _ _ => n - (RowKit.intOf vi).toNat)
  case atStart => exact ⟨0, false, [], Nat.zero_le _, rfl, rfl, ⟨rfl, fun j hj => absurd hj (Nat.not_lt_zero _)⟩, HTS.out⟩
  case round =>
    obtain ⟨k, bg, A, hk, rfl, rfl, htl, hts⟩ := hrel
    have HTL := Lib.hid htl; have HS := Lib.hid hts; clear htl hts HTS
    by_cases hlt : k < n
    · have hlt2 : k < l.length := by rw [HNN.out]; exact hlt
      obtain ⟨g, rfl⟩ := own_some HS.out.own (by omega)
      obtain ⟨p, hp⟩ : ∃ p, l.getD k pc0 = p := ⟨_, rfl⟩
      have HSN := Lib.hid (fun (p' : Pc) (hr : TitR p p') => show TitL l (k + 1) (A ++ [p']) from HTL.out.snoc (by rw [hp]; exact hr))
      have hd := drop_mid l k hlt2
      rw [hp] at hd
      rw [hd] at HS
      clear hd hp hlt2
      obtain ⟨Bl, hBl⟩ : ∃ Bl, l.drop (k + 1) = Bl := ⟨_, rfl⟩
      rw [hBl] at HS
      have HAL := Lib.hid HTL.out.len
      obtain ⟨k0, k1, k2, hfz, hg1, hg2⟩ := (RowK.mk HS.out.own HAL.out).cells hlt
      obtain ⟨pa, pr, px⟩ := p
      dsimp only at k0 k1 k2
      obtain ⟨k', hk'⟩ : ∃ k', k + 1 = k' := ⟨_, rfl⟩
      have HWK := Lib.hid (show wrap64 ((k : Int) + 1) = (k' : Int) by have := HNL.out; unfold wrap64; omega)
      rw [hk'] at HSN hBl
      have HKL := Lib.hid (show k' ≤ n ∧ k < k' by omega)
      have KEY := Lib.hid (fun (bg' : Bool) (A' : List Pc) (w' : World) (h1 : TitL l k' A') (h : TS w1 w2 w3 n c2 (some ⟨g, 0, none⟩) (A' ++ Bl) w') =>
        show (∃ (k : Nat) (bg : Bool) (A : List Pc), k ≤ n ∧ Value.int .i64 (k' : Int) = .int .i64 k ∧ Value.bool bg' = .bool bg ∧ TitL l k A ∧ TS w1 w2 w3 n c2 (some ⟨g, 0, none⟩) (A ++ l.drop k) w') ∧ n - (RowKit.intOf (.int .i64 (k' : Int))).toNat < n - (RowKit.intOf (.int .i64 (k : Int))).toNat from
          ⟨⟨k', bg', A', HKL.out.1, rfl, rfl, h1, by rw [hBl]; exact h⟩, by have := HKL.out; simp [RowKit.intOf]; omega⟩)
      have HBl := Lib.hid hBl
      clear hBl hk' hk
      obtain ⟨oB, hoB⟩ : ∃ oB : Obj, .cells #[.int .i64 pa, .int .i32 pr, .string ⟨px.toArray⟩] 46 = oB := ⟨_, rfl⟩
      have HS0 := Lib.hid (HS.out.alloc (.cells #[.int .i64 pa, .int .i32 pr, .string ⟨px.toArray⟩] 46))
      have HPC := Lib.hid (fun (w : World) (hb : Below (wr.alloc (.cells #[.int .i64 pa, .int .i32 pr, .string ⟨px.toArray⟩] 46)).heap.size (wr.alloc (.cells #[.int .i64 pa, .int .i32 pr, .string ⟨px.toArray⟩] 46)) w) => show w.cell? ⟨wr.heap.size, 1, none⟩ = some (.int .i32 pr) by
        rw [hb.cell (by simp), cell_of_row _ _ _ _ _ _ (heap_alloc_new wr _)]; rfl)
      clear hoB oB
      cases hcs : Cases.cased pr <;> cases bg
      all_goals
        have HCS := Lib.hid hcs; clear hcs
        go_wp2_with (first
          | (go_at_call 31; refine (Bs_ok zs _ A5 n5 c5 _ (HZ.out _ HS0.out.fr)).mono ?_; rintro e w4 ⟨mm, fb, rfl, hb⟩; have HS4 := Lib.hid (HS0.out.below hb); have c4 := HPC.out _ hb; have B4 := Lib.hid hb; clear hb; cases fb)
          | (go_at_call 32; refine (bcased_ok pr _ _ (openP_at (HBK.out _ HS4.out.bel))).mono ?_; rintro e w5 ⟨rfl, hb⟩; have HS5 := Lib.hid (HS4.out.below hb); have c5' := HPC.out _ (B4.out.trans (hb.mono B4.out.size)); clear hb; rw [HCS.out])
          | (go_at_call 34; refine (form_ok pr 2 (by decide) _ _ (HBK.out _ HS5.out.bel)).mono ?_; rintro e w6 ⟨sf, rfl, hsf, hb⟩; have HS6 := Lib.hid (HS5.out.below hb); have HSF := Lib.hid hsf; clear hb hsf)
          | (go_at_call 33; refine (Text_ok (formV pr 2) _ _ HSF.out (Nat.le_trans (formV_len pr 2) (by decide))).mono ?_; rintro e w7 ⟨rfl, hb⟩; have HS7 := Lib.hid (HS6.out.below hb); clear hb; obtain ⟨_, _, k27, hf7, _, hg7⟩ := (RowK.mk HS7.out.own HAL.out).cells hlt; dsimp only at k27))
      all_goals
        rw [HWK.out]
        first
          | exact KEY.out _ _ _ (HSN.out _ (.inl rfl)) (by rw [List.append_assoc]; exact HS4.out)
          | exact KEY.out _ _ _ (HSN.out _ (.inl rfl)) (by rw [List.append_assoc]; exact HS5.out)
          | exact KEY.out _ _ _ (HSN.out _ (.inr ⟨HCS.out, rfl⟩)) (HS7.out.set HAL.out _)
    · obtain rfl : k = n := by omega
      have hdr : A ++ l.drop k = A := by rw [← HNN.out, List.drop_length, List.append_nil]
      rw [hdr] at HS
      have hlen : A.length = k := HTL.out.len
      have htl := HTL.out
      rw [← HNN.out] at htl
      obtain ⟨ch, hch⟩ := HDONE.out A htl
      have hcat : (catP A).length ≤ 1000000000 := by
        rw [hch]
        have h1 := (pcs_len (encT ch (finalF (runesOf t))) (encT_len ch _) t t.length 0 0).1
        have := HN.out
        omega
      have HJ := Lib.hid (joined_ok A (.slice A2 k c2) w1.heap.size wr (by rw [hlen]; exact HS.out.own) (by rw [hlen]; have := HNL.out; omega) hcat)
      have HCH := Lib.hid hch
      clear hdr hlen htl hch hcat
      go_wp2_with (go_at_call 35; refine HJ.out.mono ?_; rintro e w9 ⟨rfl, h9⟩; have B9 := Lib.hid (HS.out.bel.trans (h9.mono HS.out.bel.size)); clear h9)
      go_ret
      exact ⟨ch, by rw [← HCH.out]; rfl, B1.out.trans (B9.out.mono B1.out.size)⟩
end
section
open Go.Shelf Go.RowKit Go.Lib Go.Proofs.YtnfghboholehdaaGreatDoor.Am
/-- what live() is to do -/
def Lives (w : World) : Prop := Calls Tryz.prog 8 #[] w fun e w' => e = .returned (.bool true) ∧ Below w.heap.size w w'
def LawPost (W : World) (e : Ending) (w' : World) : Prop := e = .returned (.bool true) ∧ Below W.heap.size W w'
def L (s : ByteArray) : List UInt8 := s.data.toList
theorem mk_L (s : ByteArray) : (⟨(L s).toArray⟩ : ByteArray) = s := by cases s; simp [L]
theorem opensW_P {w : World} (h : OpensW w) : OpensP w := h.mono fun _ _ ⟨v, e, h1, h2⟩ => ⟨v, e, openW_P h1, h2⟩
/-- a call that gives a text, in every later world -/
def Gives (W : World) (f : FuncId) (a b : ByteArray) : Prop := ∀ w, Below W.heap.size W w → Calls Tryz.prog f #[.string a] w fun e w' => e = .returned (.string b) ∧ Below W.heap.size W w'
def bA (t : List UInt8) : ByteArray := ⟨t.toArray⟩
theorem gives_fold {W : World} (hO : ∀ w, Below W.heap.size W w → OpensW w) (hT : Lib.Utf8Tabs 0 1 W) {t : List UInt8} {f : List UInt8} (h : t.length ≤ 10000) (hf : wr 3 t = f) : Gives W 20 (bA t) (bA f) := by
  intro w hb
  refine (Fold_ok t w (opensW_P (hO w hb)) (tabs_below hb hT) h).mono ?_
  rintro e w' ⟨rfl, h2⟩
  exact ⟨by rw [hf]; rfl, hb.trans (h2.mono hb.size)⟩
theorem gives_great {W : World} (hO : ∀ w, Below W.heap.size W w → OpensW w) (hT : Lib.Utf8Tabs 0 1 W) {t : List UInt8} (h : t.length ≤ 10000) : Gives W 19 (bA t) (bA (wr 1 t)) := by
  intro w hb
  refine (Great_ok t w (opensW_P (hO w hb)) (tabs_below hb hT) h).mono ?_
  rintro e w' ⟨rfl, h2⟩
  exact ⟨rfl, hb.trans (h2.mono hb.size)⟩
theorem gives_small {W : World} (hO : ∀ w, Below W.heap.size W w → OpensW w) (hT : Lib.Utf8Tabs 0 1 W) {t : List UInt8} (h : t.length ≤ 10000) : Gives W 18 (bA t) (bA (smallT t)) := by
  intro w hb
  refine (Small_ok t w (hO w hb) (tabs_below hb hT) h).mono ?_
  rintro e w' ⟨rfl, h2⟩
  exact ⟨rfl, hb.trans (h2.mono hb.size)⟩
theorem gives_turned {W : World} (hO : ∀ w, Below W.heap.size W w → OpensW w) (hT : Lib.Utf8Tabs 0 1 W) {t f : List UInt8} (h : t.length ≤ 10000) (hf : turnT t = f) : Gives W 22 (bA t) (bA f) := by
  intro w hb
  refine (Turned_ok t w (hO w hb) (tabs_below hb hT) h).mono ?_
  rintro e w' ⟨rfl, h2⟩
  exact ⟨by rw [hf]; rfl, hb.trans (h2.mono hb.size)⟩
theorem gives_title {W : World} (hO : ∀ w, Below W.heap.size W w → OpensW w) (hT : Lib.Utf8Tabs 0 1 W) {t : List UInt8} (hN : ∀ w, Below W.heap.size W w → NewW w) (h : t.length ≤ 800) (hr : ∀ r ∈ runesOf t, r ≠ 304 ∧ r ≠ 305) (w : World) (hb : Below W.heap.size W w) : Calls Tryz.prog 9 #[.string (bA t)] w fun e w' => (∃ x, e = .returned (.string x) ∧ Gives W 20 x (bA (wr 3 t))) ∧ Below W.heap.size W w' := by
  refine (Title_ok t w (hO w hb) (tabs_below hb hT) (by omega) (fun w' hb' => Bounds_ok t w' (fun w2 hb2 => hN w2 (hb.trans ((hb'.trans (hb2.mono hb'.size)).mono hb.size))) (by omega))).mono ?_
  rintro e w' ⟨ch, rfl, h2⟩
  refine ⟨⟨_, rfl, ?_⟩, hb.trans (h2.mono hb.size)⟩
  exact gives_fold hO hT (t := catP (pcs (encT ch (finalF (runesOf t))) t t.length 0 0)) (by have := (pcs_len (encT ch (finalF (runesOf t))) (encT_len ch _) t t.length 0 0).1; omega) (fold_title ch t hr)
theorem wr_len (k : Nat) (hk : k ≠ 0) (t : List UInt8) : (wr k t).length ≤ 12 * t.length := by
  rw [← catP_wr k hk (fun _ => false) t]
  exact (pcs_len (encW k fun _ => false) (encW_len k _) t t.length 0 0).1
theorem smallT_len (t : List UInt8) : (smallT t).length ≤ 12 * t.length := (pcs_len (encW 0 (finalF (runesOf t))) (encW_len 0 _) t t.length 0 0).1
set_option maxRecDepth 100000 in
theorem once_long (s : ByteArray) (h : 80 < s.size) (W : World) (hlive : Lives W) : Calls Tryz.prog 6 #[.string s] W (LawPost W) := by
  have HL := Lib.hid hlive; clear hlive
  go_enter Tryz.func6, Tryz.ntmps6
  go_wp2_with (go_at_call 8; refine HL.out.mono ?_; rintro e w1 ⟨rfl, hb⟩; have HB := Lib.hid hb; clear hb)
  go_ret
  exact ⟨rfl, HB.out⟩
set_option maxRecDepth 100000 in
set_option maxHeartbeats 4000000 in
theorem once_short (t : List UInt8) (S : ByteArray) (hS : bA t = S) (h : S.size ≤ 80) (W : World) (hO : ∀ w, Below W.heap.size W w → OpensW w) (hT : Lib.Utf8Tabs 0 1 W) (hN : ∀ w, Below W.heap.size W w → NewW w) (hlive : ∀ w, Below W.heap.size W w → Lives w) :
    Calls Tryz.prog 6 #[.string S] W (LawPost W) := by
  have hlen : t.length ≤ 80 := by rw [← size_mk t S hS]; exact h
  obtain ⟨F, hF⟩ : ∃ F, bA (wr 3 t) = F := ⟨_, rfl⟩
  obtain ⟨T, hTu⟩ : ∃ T, bA (turnT t) = T := ⟨_, rfl⟩
  obtain ⟨S1, hS1⟩ : ∃ S1, bA (smallT t) = S1 := ⟨_, rfl⟩
  obtain ⟨G, hG⟩ : ∃ G, bA (wr 1 t) = G := ⟨_, rfl⟩
  have l3 := wr_len 3 (by decide) t
  have l1 := wr_len 1 (by decide) t
  have l0 := smallT_len t
  have lt := turnT_len t
  have HF1 := Lib.hid (show Gives W 20 S F by rw [← hS, ← hF]; exact gives_fold hO hT (by omega) rfl)
  have HF2 := Lib.hid (show Gives W 20 F F by rw [← hF]; exact gives_fold hO hT (by omega) (fold_twice t))
  have HT1 := Lib.hid (show Gives W 22 S T by rw [← hS, ← hTu]; exact gives_turned hO hT (by omega) rfl)
  have HT2 := Lib.hid (show Gives W 22 T S by rw [← hS, ← hTu]; exact gives_turned hO hT (by omega) (turned_twice t))
  have HSM := Lib.hid (show Gives W 18 S S1 by rw [← hS, ← hS1]; exact gives_small hO hT (by omega))
  have HGR := Lib.hid (show Gives W 19 S G by rw [← hS, ← hG]; exact gives_great hO hT (by omega))
  have HRU := Lib.hid (fun w => show Calls Tryz.prog 24 #[.string S] w (RunesPost t w) by rw [← hS]; exact Runes_ok t (by omega) w)
  have HAFTER := Lib.hid (fun (hr : ∀ r ∈ runesOf t, r ≠ 304 ∧ r ≠ 305) => show Gives W 20 S1 F ∧ Gives W 20 G F ∧ (∀ w, Below W.heap.size W w → Calls Tryz.prog 9 #[.string S] w fun e w' => (∃ x, e = .returned (.string x) ∧ Gives W 20 x F) ∧ Below W.heap.size W w') from by
    rw [← hS, ← hS1, ← hG, ← hF]
    exact ⟨gives_fold hO hT (by omega) (fold_small t hr), gives_fold hO hT (by omega) (fold_great t hr), gives_title hO hT hN (by omega) hr⟩)
  have HRL := Lib.hid (show (runesOf t).length ≤ 80 from Nat.le_trans (runesOf_len t) hlen)
  have HLV := Lib.hid hlive
  clear hF hTu hS1 hG l3 l1 l0 lt hO hT hN hlive hlen hS
  have h80 : ¬ 80 < S.size := by omega
  obtain ⟨rs, hrs⟩ : ∃ rs, runesOf t = rs := ⟨_, rfl⟩
  rw [hrs] at HRL HAFTER
  have HRS := Lib.hid hrs; clear hrs
  go_enter Tryz.func6, Tryz.ntmps6
  have HB0 := Lib.hid (Below.refl W.heap.size W)
  go_wp2_with (first
    | (go_at_call_of 20 (Value.string S); refine (HF1.out _ HB0.out).mono ?_; rintro e w1 ⟨rfl, hb⟩; have HB1 := Lib.hid hb; clear hb HB0)
    | (go_at_call_of 20 (Value.string F); refine (HF2.out _ HB1.out).mono ?_; rintro e w2 ⟨rfl, hb⟩; have HB2 := Lib.hid hb; clear hb)
    | (go_at_call_of 22 (Value.string S); refine (HT1.out _ HB2.out).mono ?_; rintro e w3 ⟨rfl, hb⟩; have HB3 := Lib.hid hb; clear hb)
    | (go_at_call_of 22 (Value.string T); refine (HT2.out _ HB3.out).mono ?_; rintro e w4 ⟨rfl, hb⟩; have HB4 := Lib.hid hb; clear hb)
    | (go_at_call 24; refine (HRU.out _).mono ?_; rintro e w5 ⟨v5, rfl, hsl, hb⟩; rw [HRS.out] at hsl; have HB5 := Lib.hid (HB4.out.trans (hb.mono HB4.out.size)); obtain ⟨A5, c5, rfl, hlc, hcl⟩ := hsl; have HCL := Lib.hid hcl; clear hb hcl hlc))
  obtain ⟨N, hNl⟩ : ∃ N, rs.length = N := ⟨_, rfl⟩
  rw [hNl] at HCL HRL ⊢
  have HNL := Lib.hid hNl; clear hNl
  have hN80 := HRL.out
  go_loopw [5] (fun vi wr => ∃ k : Nat, k ≤ N ∧ vi = .int .i64 k ∧ (∀ j, j < k → rs.getD j 0 ≠ 304 ∧ rs.getD j 0 ≠ 305) ∧ wr = w5) (fun vi _ => N - (RowKit.intOf vi).toNat)
  case atStart => exact ⟨0, Nat.zero_le _, rfl, fun j hj => absurd hj (Nat.not_lt_zero _), rfl⟩
  case round =>
    obtain ⟨k, hk, rfl, hno, rfl⟩ := hrel
    have HNO := Lib.hid hno; clear hno
    by_cases hlt : k < N
    · obtain ⟨g, o, rfl, hcell⟩ := HCL.out (by omega)
      have ck := hcell k hlt
      obtain ⟨x, hx⟩ : ∃ x, rs.getD k 0 = x := ⟨_, rfl⟩
      rw [hx] at ck
      have HX := Lib.hid hx; clear hx hcell
      by_cases h4 : x = 304
      · subst h4
        go_wp2_with (go_at_call 8; refine (HLV.out _ HB5.out).mono ?_; rintro e w9 ⟨rfl, hb⟩; have HB9 := Lib.hid (HB5.out.trans (hb.mono HB5.out.size)); clear hb)
        go_ret
        exact ⟨rfl, HB9.out⟩
      · have b4 : (x == 304) = false := by simp [h4]
        by_cases h5 : x = 305
        · subst h5
          go_wp2_with (go_at_call 8; refine (HLV.out _ HB5.out).mono ?_; rintro e w9 ⟨rfl, hb⟩; have HB9 := Lib.hid (HB5.out.trans (hb.mono HB5.out.size)); clear hb)
          go_ret
          exact ⟨rfl, HB9.out⟩
        · have b5 : (x == 305) = false := by simp [h5]
          have HNX := Lib.hid (show ∀ j, j < k + 1 → rs.getD j 0 ≠ 304 ∧ rs.getD j 0 ≠ 305 from fun j hj => by
            rcases Nat.lt_or_ge j k with c | c
            · exact HNO.out j c
            · obtain rfl : j = k := by omega
              rw [HX.out]; exact ⟨h4, h5⟩)
          go_wp2_with fail
          go_roundw
          case rel => exact ⟨k + 1, by omega, by go_num, HNX.out, by first | rfl | trivial⟩
          case measure => simp [RowKit.intOf]; omega
    · obtain rfl : k = N := by omega
      have hr : ∀ r ∈ rs, r ≠ 304 ∧ r ≠ 305 := fun r hr => by
        obtain ⟨j, hj, rfl⟩ := List.mem_iff_getElem.1 hr
        have := HNO.out j (by rw [← HNL.out]; exact hj)
        rw [List.getD_eq_getElem?_getD, List.getElem?_eq_getElem hj] at this
        exact this
      obtain ⟨ha, hb1, hc⟩ := HAFTER.out hr
      have HFS := Lib.hid ha; have HFG := Lib.hid hb1; have HTI := Lib.hid hc
      clear ha hb1 hc hr
      go_wp2_with (first
        | (go_at_call 18; refine (HSM.out _ HB5.out).mono ?_; rintro e w6 ⟨rfl, hb⟩; have HB6 := Lib.hid hb; clear hb)
        | (go_at_call_of 20 (Value.string S1); refine (HFS.out _ HB6.out).mono ?_; rintro e w7 ⟨rfl, hb⟩; have HB7 := Lib.hid hb; clear hb)
        | (go_at_call 19; refine (HGR.out _ HB7.out).mono ?_; rintro e w8 ⟨rfl, hb⟩; have HB8 := Lib.hid hb; clear hb)
        | (go_at_call_of 20 (Value.string G); refine (HFG.out _ HB8.out).mono ?_; rintro e w11 ⟨rfl, hb⟩; have HB11 := Lib.hid hb; clear hb)
        | (go_at_call 9; refine (HTI.out _ HB11.out).mono ?_; rintro e w12 ⟨⟨X, rfl, hx⟩, hb⟩; have HB12 := Lib.hid hb; have HFX := Lib.hid hx; clear hb hx)
        | (go_at_call_of 20 (Value.string X); refine (HFX.out _ HB12.out).mono ?_; rintro e w13 ⟨rfl, hb⟩; have HB13 := Lib.hid hb; clear hb)
        | (go_at_call 8; refine (HLV.out _ HB13.out).mono ?_; rintro e w9 ⟨rfl, hb⟩; have HB9 := Lib.hid (HB13.out.trans (hb.mono HB13.out.size)); clear hb))
      go_ret
      exact ⟨rfl, HB9.out⟩
theorem FoldOnce_ok (s : ByteArray) (W : World) (hO : ∀ w, Below W.heap.size W w → OpensW w) (hT : Lib.Utf8Tabs 0 1 W) (hN : ∀ w, Below W.heap.size W w → NewW w) (hlive : ∀ w, Below W.heap.size W w → Lives w) :
    Calls Tryz.prog 6 #[.string s] W (LawPost W) := by
  rcases Nat.lt_or_ge 80 s.size with h | h
  · exact once_long s h W (hlive W (Below.refl _ _))
  · exact once_short (L s) s (mk_L s) h W hO hT hN hlive
end
end Go.Proofs.YtnfghboholehdaaGreatDoor.foldOnce
