/- SearchLeft, walked: word.scan, word.Bounds, exactly. -/
import Derived.Test.YtmpkgddioiaonaaGreatDoorFJ
import Derived.Test.YtmpkgddioiaonaaGreatDoorFC
import Derived.Test.YtmpkgddioiaonaaGreatDoorFI
import Derived.Laws.OwnMore
namespace Go.Proofs.YtmpkgddioiaonaaGreatDoor.searchLeft
section
open Go.Shelf Go.RowKit Go.Lib Go.Proofs.YtmpkgddioiaonaaGreatDoor.Am
open Folds (dec dec_pos dec_le)
/-- the loop's state: the box, the two rows, the text's iterator -/
structure SL (w1 : World) (s : ByteArray) (L : Int) (e m1 m2 : Nat) (x1 x2 v1 v2 : Value) (ats cls : List Int) (w : World) : Prop where
 bel : Below w1.heap.size w1 w
 it : w.heap[w1.heap.size + 1]? = some (.stringIter s e)
 blk : w.heap[w1.heap.size]? = some (.cells #[x1, x2, .int .i64 L] 105 (0, 0))
 o1 : w.ownsRow w1.heap.size 3 1 v1 m1 (intsW ats)
 o2 : w.ownsRow w1.heap.size 3 1 v2 m2 (intsW cls)
 ap : ∀ k, v1.ownBlock = some k → v2.ownBlock = some k → False
section
variable {w1 w w' : World} {s : ByteArray} {L : Int} {e m1 m2 : Nat} {x1 x2 v1 v2 : Value} {ats cls : List Int}
theorem SL.below (h : SL w1 s L e m1 m2 x1 x2 v1 v2 ats cls w) (hb : Below w.heap.size w w') : SL w1 s L e m1 m2 x1 x2 v1 v2 ats cls w' :=
 ⟨h.bel.trans (hb.mono h.bel.size), below_blk hb h.it, below_blk hb h.blk, own_below hb h.o1, own_below hb h.o2, h.ap⟩
theorem SL.alloc (h : SL w1 s L e m1 m2 x1 x2 v1 v2 ats cls w) (o : Obj) : SL w1 s L e m1 m2 x1 x2 v1 v2 ats cls (w.alloc o) := h.below ((Below.refl _ w).alloc (Nat.le_refl _) o)
theorem SL.alloc1 (h : SL w1 s L e m1 m2 x1 x2 v1 v2 ats cls w) {o : Obj} : (w.alloc o).ownsRow w1.heap.size 3 1 v1 m1 (intsW ats) := (h.alloc o).o1
theorem SL.alloc2 (h : SL w1 s L e m1 m2 x1 x2 v1 v2 ats cls w) {o : Obj} : (w.alloc o).ownsRow w1.heap.size 3 1 v2 m2 (intsW cls) := (h.alloc o).o2
theorem SL.drew (h : SL w1 s L e m1 m2 x1 x2 v1 v2 ats cls w) : SL w1 s L e m1 m2 x1 x2 v1 v2 ats cls w.drew := ⟨⟨h.bel.os, h.bel.tape, h.bel.output, h.bel.size, h.bel.block⟩, h.it, h.blk, h.o1, h.o2, h.ap⟩
theorem SL.iter (h : SL w1 s L e m1 m2 x1 x2 v1 v2 ats cls w) (e' : Nat) : SL w1 s L e' m1 m2 x1 x2 v1 v2 ats cls (w.iterAt (w1.heap.size + 1) s e') :=
 ⟨below_iterAt h.bel (Nat.le_succ _) s e', iterAt_heap w _ s e e' h.it, (iterAt_other w _ _ s e' (Nat.ne_of_lt (Nat.lt_succ_self _))).trans h.blk, own_iterAt h.it h.o1, own_iterAt h.it h.o2, h.ap⟩
theorem SL.box (h : SL w1 s L e m1 m2 x1 x2 v1 v2 ats cls w) : w.cell? ⟨w1.heap.size, 0, none⟩ = some x1 ∧ w.cell? ⟨w1.heap.size, 1, none⟩ = some x2 ∧ w.cell? ⟨w1.heap.size, 2, none⟩ = some (.int .i64 L) ∧ (∀ j, w.frozen? ⟨w1.heap.size, j, none⟩ = false) ∧ w1.heap.size < w.heap.size :=
 ⟨by rw [cell_of_row _ _ _ _ _ _ h.blk]; rfl, by rw [cell_of_row _ _ _ _ _ _ h.blk]; rfl, by rw [cell_of_row _ _ _ _ _ _ h.blk]; rfl, fun j => frozen_of_row _ _ _ _ _ h.blk, heap_lt h.blk⟩
theorem own_ne {g : Nat} {base : Nat} {v : Value} {n : Nat} {xs : List Value} {o : Obj} (h : w.ownsRow base 3 1 v n xs) (hg : w.heap[g]? = some o) (ho : ∀ cur, o ≠ .cells cur 3 (0, 0)) : some g ≠ v.ownBlock := by
 intro hk
 obtain ⟨_, _, cur, hcur⟩ := own_lt h hk.symm
 rw [hg] at hcur
 exact ho cur (Option.some.inj hcur)
theorem SL.grow1 (h : SL w1 s L e m1 m2 x1 x2 v1 v2 ats cls w) {o : Obj} {v' : Value} {x : Int} (ho : w'.ownsRow w1.heap.size 3 1 v' (m1 + 1) (intsW ats ++ [.int .i64 x])) (hg : (w.alloc o).grownBy w' v1.ownBlock) (hn : v'.ownBlock = v1.ownBlock ∨ v'.ownBlock = some (w.alloc o).heap.size) :
 SL w1 s L e (m1 + 1) m2 x1 x2 v' v2 (ats ++ [x]) cls w' := by
 have h' := h.alloc o
 refine ⟨h'.bel.grown hg h'.bel.size (fun k hk => (own_lt h'.o1 hk).1), ?_, ?_, by rw [intsW_app]; exact ho, ?_, ?_⟩
 ·rw [hg.block _ (heap_lt h'.it) (own_ne h'.o1 h'.it (fun _ h => by cases h))]; exact h'.it
 ·rw [hg.block _ (heap_lt h'.blk) (own_ne h'.o1 h'.blk (fun _ h => by injection h with _ h; exact absurd h (by decide)))]; exact h'.blk
 ·exact (Fr.grown (T := fun k => v1.ownBlock = some k) hg (fun k hk _ => hk)).own h'.o2 (fun k hk hk2 => h.ap k hk2 hk)
 ·intro k hk hk2
  rcases hn with hn | hn
  ·rw [hn] at hk; exact h.ap k hk hk2
  ·rw [hn] at hk
   have := (own_lt h'.o2 hk2).2.1
   injection hk with hk
   omega
theorem SL.grow2 (h : SL w1 s L e m1 m2 x1 x2 v1 v2 ats cls w) {o : Obj} {v' : Value} {x : Int} (ho : w'.ownsRow w1.heap.size 3 1 v' (m2 + 1) (intsW cls ++ [.int .i64 x])) (hg : (w.alloc o).grownBy w' v2.ownBlock) (hn : v'.ownBlock = v2.ownBlock ∨ v'.ownBlock = some (w.alloc o).heap.size) :
 SL w1 s L e m1 (m2 + 1) x1 x2 v1 v' ats (cls ++ [x]) w' := by
 have h' := h.alloc o
 refine ⟨h'.bel.grown hg h'.bel.size (fun k hk => (own_lt h'.o2 hk).1), ?_, ?_, ?_, by rw [intsW_app]; exact ho, ?_⟩
 ·rw [hg.block _ (heap_lt h'.it) (own_ne h'.o2 h'.it (fun _ h => by cases h))]; exact h'.it
 ·rw [hg.block _ (heap_lt h'.blk) (own_ne h'.o2 h'.blk (fun _ h => by injection h with _ h; exact absurd h (by decide)))]; exact h'.blk
 ·exact (Fr.grown (T := fun k => v2.ownBlock = some k) hg (fun k hk _ => hk)).own h'.o1 (fun k hk hk2 => h.ap k hk hk2)
 ·intro k hk hk2
  rcases hn with hn | hn
  ·rw [hn] at hk2; exact h.ap k hk hk2
  ·rw [hn] at hk2
   have := (own_lt h'.o1 hk).2.1
   injection hk2 with hk2
   omega
theorem SL.set1 (h : SL w1 s L e m1 m2 x1 x2 v1 v2 ats cls w) (u : Value) : SL w1 s L e m1 m2 u x2 v1 v2 ats cls (w.setCell ⟨w1.heap.size, 0, none⟩ u) := by
 refine ⟨h.bel.setCell (Nat.le_refl _) u, (Below.heap_setCell w _ u _ (Nat.succ_ne_self _)).trans h.it, heap_setCell_same w _ 0 _ _ u h.blk, ownsRow_setCell_other h.o1 (own_ne h.o1 h.blk (fun _ h => by injection h with _ h; exact absurd h (by decide))).symm u, ownsRow_setCell_other h.o2 (own_ne h.o2 h.blk (fun _ h => by injection h with _ h; exact absurd h (by decide))).symm u, h.ap⟩
theorem SL.set2 (h : SL w1 s L e m1 m2 x1 x2 v1 v2 ats cls w) (u : Value) : SL w1 s L e m1 m2 x1 u v1 v2 ats cls (w.setCell ⟨w1.heap.size, 1, none⟩ u) := by
 refine ⟨h.bel.setCell (Nat.le_refl _) u, (Below.heap_setCell w _ u _ (Nat.succ_ne_self _)).trans h.it, heap_setCell_same w _ 1 _ _ u h.blk, ownsRow_setCell_other h.o1 (own_ne h.o1 h.blk (fun _ h => by injection h with _ h; exact absurd h (by decide))).symm u, ownsRow_setCell_other h.o2 (own_ne h.o2 h.blk (fun _ h => by injection h with _ h; exact absurd h (by decide))).symm u, h.ap⟩
end
theorem ints_own {w : World} {base n c : Nat} {A : Option Addr} {zs : List Int} (h : w.ownsRow base 3 1 (.slice A n c) n (intsW zs)) (hn : n ≤ 100000) : IntsR w A n zs := by
 refine ⟨by have := h.1; simpa [intsW] using this, hn, fun h0 => ?_⟩
 obtain ⟨g, rfl⟩ := own_some h h0
 refine ⟨g, 0, rfl, (own_lt h rfl).2.1, fun j hj => ?_⟩
 have hl : zs.length = n := by have := h.1; simpa [intsW] using this
 have hx := World.ownsRow.cells (g := g) h rfl j (.int .i64 (zs.getD j 0)) (by
  unfold intsW
  rw [List.getElem?_map, List.getElem?_eq_getElem (by omega), List.getD_eq_getElem?_getD, List.getElem?_eq_getElem (by omega)]
  rfl)
 rw [← add_none]
 exact hx
/-- the text that the second region's first operation hands to a callee -/
noncomputable def argOf (c : Option Code) : ByteArray := match c with
 | some (Code.seq _ (Code.seq (Code.region _ ops _) _)) => match ops[0]? with
   | some o => match o.op with
     | Op.call c => match c.args[0]? with
       | some (Operand.const (Value.string s)) => s
       | _ => ⟨#[]⟩
     | _ => ⟨#[]⟩
   | none => ⟨#[]⟩
 | _ => ⟨#[]⟩
/-- the text of word's classes, as scan hands it on -/
noncomputable def wordProps : ByteArray := argOf Tryz.f49.body
/-- what props.New is to do with it -/
def NewW (w : World) : Prop := Calls Tryz.prog 40 #[.string wordProps] w fun e w' => ∃ d x y, e = .returned (.tuple #[d, x, y]) ∧ DbAt w' d rangedW ∧ Below w.heap.size w w'
theorem rangedW_asc : ascR rangedW = true := by decide +kernel
def atsF (t : List UInt8) : List Int := (marks t).map fun x => (x.1 : Int)
def clsF (t : List UInt8) : List Int := (marks t).map fun x => clsOf rangedW (runeOr (x.2 : Int))
theorem marks_le (t : List UInt8) : (marks t).length ≤ t.length := by
 have := marks_len t t.length 0 (Nat.zero_le _)
 unfold marks
 omega
def ScanXPost (t : List UInt8) (W : World) (e : Ending) (w' : World) : Prop := ∃ A1 m c1 A2 c2, m ≤ 10000 ∧ e = .returned (.agg #[.slice A1 m c1, .slice A2 m c2, .int .i64 t.length]) ∧ IntsR w' A1 m (atsF t) ∧ IntsR w' A2 m (clsF t) ∧ Below W.heap.size W w'
theorem LEN8 {m e n : Nat} (h1 : m ≤ e) (h2 : e ≤ n) (h3 : n ≤ 10000) : m + 1 ≤ maxLen ∧ (m + 1) * 8 ≤ 140737488355328 := ⟨by simp only [maxLen]; omega, by omega⟩
set_option maxRecDepth 100000 in
set_option maxHeartbeats 8000000 in
theorem scanX_ok (t : List UInt8) (W : World) (hN : ∀ w, Below W.heap.size W w → NewW w) (hn : t.length ≤ 10000) : Calls Tryz.prog 49 #[.string ⟨t.toArray⟩] W (ScanXPost t W) := by
 obtain ⟨s, hs⟩ : ∃ s : ByteArray, (⟨t.toArray⟩ : ByteArray) = s := ⟨_, rfl⟩
 have hss : s.size = t.length := size_mk t s hs
 rw [hs]
 have HS := Lib.hid hs; have HSS := Lib.hid hss; have HN := Lib.hid hN; have HLT := Lib.hid hn
 clear hs hss hN hn
 obtain ⟨i0, hI0, hz0, hz1, hz2⟩ := info_parts int_info
 go_enter Tryz.func49, Tryz.ntmps49
 go_wp2_with (go_at_call 40; refine (HN.out _ ((Below.refl _ W).alloc (Nat.le_refl _) _)).mono ?_; rintro e w1 ⟨d, x, y, rfl, hd, hb⟩; have HD := Lib.hid hd; have HB := Lib.hid hb; clear hd hb)
 go_loopw [] (fun wr => ∃ (e f m : Nat) (A1 : Option Addr) (c1 : Nat) (A2 : Option Addr) (c2 : Nat) (ats cls : List Int), SL w1 s (s.size : Int) e m m (.slice A1 m c1) (.slice A2 m c2) (.slice A1 m c1) (.slice A2 m c2) ats cls wr ∧ e ≤ s.size ∧ s.size < f + e + 1 ∧ m ≤ e ∧ ats ++ (marksFrom t f e).map (fun x => (x.1 : Int)) = atsF t ∧ cls ++ (marksFrom t f e).map (fun x => clsOf rangedW (runeOr (x.2 : Int))) = clsF t) (fun wr => s.size - wr.iterPos (w1.heap.size + 1))
 case atStart =>
  refine ⟨0, t.length, 0, none, 0, none, 0, [], [], ⟨?_, ?_, ?_, ⟨rfl, .inl ⟨rfl, rfl⟩⟩, ⟨rfl, .inl ⟨rfl, rfl⟩⟩, fun _ h => by cases h⟩, Nat.zero_le _, by have := HSS.out; omega, Nat.le_refl _, rfl, rfl⟩
  ·exact ((Below.refl _ w1).alloc (Nat.le_refl _) _).alloc (by simp) _
  ·have := heap_alloc_new (w1.alloc (.cells #[.slice none 0 0, .slice none 0 0, .int .i64 (s.size : Int)] 105)) (.stringIter s 0)
   rw [World.size_alloc] at this
   exact this
  ·exact (Below.heap_alloc _ _ _ (by simp)).trans (heap_alloc_new _ _)
 case round =>
  obtain ⟨e, f, m, A1, c1, A2, c2, ats, cls, hSL, he, hf, hm, hla, hlc⟩ := hrel
  have hit := hSL.it
  have HSL := Lib.hid hSL
  by_cases hlt : e < s.size
  ·clear hSL
   obtain ⟨f', rfl⟩ : ∃ f', f = f' + 1 := ⟨f - 1, by omega⟩
   have hlt2 : e < t.length := by have := HSS.out; omega
   unfold marksFrom at hla hlc
   rw [if_pos hlt2, List.map_cons] at hla hlc
   dsimp only at hla hlc
   have hnx := fun ty => run_next_any_at (P := Tryz.prog) wr _ s e ty hit hlt
   rw [decode_drop t e s HS.out] at hnx
   have hne2 : t.drop e ≠ [] := by intro c; rw [List.drop_eq_nil_iff] at c; have := HSS.out; omega
   have hd1 := dec_pos (t.drop e)
   have hd2 := dec_le (t.drop e) hne2
   rw [List.length_drop, ← HSS.out] at hd2
   obtain ⟨r, hr⟩ : ∃ r : Int, ((dec (t.drop e)).1 : Int) = r := ⟨_, rfl⟩
   obtain ⟨wd, hwd⟩ : ∃ wd, (dec (t.drop e)).2 = wd := ⟨_, rfl⟩
   rw [hwd] at hd1 hd2 hla hlc
   rw [hr] at hlc
   rw [hr, hwd] at hnx
   obtain ⟨ew, hew⟩ : ∃ ew, e + wd = ew := ⟨_, rfl⟩
   rw [hew] at hnx hla hlc
   obtain ⟨cx, hcx⟩ : ∃ cx, clsOf rangedW (runeOr r) = cx := ⟨_, rfl⟩
   rw [hcx] at hlc
   have HCX := Lib.hid hcx
   have HLA := Lib.hid hla; have HLC := Lib.hid hlc
   clear hla hlc hlt2
   have HLEN := Lib.hid (LEN8 hm he (by rw [HSS.out]; exact HLT.out))
   have HSI := Lib.hid (HSL.out.iter ew)
   obtain ⟨j0, j1, j2, j3, j4⟩ := HSI.out.box
   have j3' := j3 0
   have hq2 : wr.iterPos (w1.heap.size + 1) = e := by unfold World.iterPos; rw [hit]
   have KEY := Lib.hid (fun (B1 : Option Addr) (d1 : Nat) (B2 : Option Addr) (d2 : Nat) (w' : World) (h : SL w1 s (s.size : Int) ew (m + 1) (m + 1) (.slice B1 (m + 1) d1) (.slice B2 (m + 1) d2) (.slice B1 (m + 1) d1) (.slice B2 (m + 1) d2) (ats ++ [(e : Int)]) (cls ++ [cx]) w') =>
    show (∃ (e f m : Nat) (A1 : Option Addr) (c1 : Nat) (A2 : Option Addr) (c2 : Nat) (ats cls : List Int), SL w1 s (s.size : Int) e m m (.slice A1 m c1) (.slice A2 m c2) (.slice A1 m c1) (.slice A2 m c2) ats cls w' ∧ e ≤ s.size ∧ s.size < f + e + 1 ∧ m ≤ e ∧ ats ++ (marksFrom t f e).map (fun x => (x.1 : Int)) = atsF t ∧ cls ++ (marksFrom t f e).map (fun x => clsOf rangedW (runeOr (x.2 : Int))) = clsF t) ∧ s.size - w'.iterPos (w1.heap.size + 1) < s.size - wr.iterPos (w1.heap.size + 1) from by
     refine ⟨⟨ew, f', m + 1, B1, d1, B2, d2, _, _, h, by omega, by omega, by omega, by rw [List.append_assoc]; exact HLA.out, by rw [List.append_assoc]; exact HLC.out⟩, ?_⟩
     have q1 : w'.iterPos (w1.heap.size + 1) = ew := by unfold World.iterPos; rw [h.it]
     rw [q1, hq2]; omega)
   clear hr hwd hew hcx j3 hd1 hd2 hne2 hf hm he hq2
   go_wp2_with (at_builtin; refine wpList_app _ rfl (.tmp 24) (.tmp 26) 36 rfl w1.heap.size 3 i0 _ 8 Tryz.underlying36 hI0 hz0 hz1 hz2 rfl (.slice A1 m c1) m (intsW ats) rfl HSI.out.alloc1 _ 1 1 [.int .i64 e] rfl (src_one _ _ _) (by simp [Value.oneCell']) HLEN.out.1 HLEN.out.2 (by rw [World.size_alloc]; have := HSI.out.bel.size; omega) ?_; intro v' wp ho hg hn; obtain ⟨B1, d1, rfl, _⟩ := own_slice3 ho; have HSP := Lib.hid (HSI.out.grow1 ho hg hn); clear ho hg hn hnx j0 j1 j2 j3' j4 hit; obtain ⟨p0, p1, p2, p3, p4⟩ := HSP.out.box; have p3' := p3 0; clear p3)
   have HSQ := Lib.hid (HSP.out.set1 (.slice B1 (m + 1) d1)).drew
   clear p0 p1 p2 p3' p4
   refine wp_region_any (by kernel_rfl) ?_
   change wpAny _ _ _ _ _ _ _ (World.drew _)
   obtain ⟨wq, hwq⟩ : ∃ wq, (wp.setCell ⟨w1.heap.size, 0, none⟩ (.slice B1 (m + 1) d1)).drew = wq := ⟨_, rfl⟩
   rw [hwq] at HSQ ⊢
   clear hwq
   obtain ⟨y0, y1, y2, y3, y4⟩ := HSQ.out.box
   clear y3
   refine wpAny_take (i := 0) (v := ?_) rfl (by kernel_rfl) (by kernel_rfl) (by kernel_rfl) (fun _ _ _ h => h) (Or.inl ⟨by kernel_rfl, ?_⟩) ?_
   rotate_left
   ·intro w; go_simp; try with_reducible rfl
   (try simp only [Act.put]); (try simp only [List.setIfInBounds_toArray]); (try simp only [List.set_cons_succ]); (try simp only [List.set_cons_zero])
   refine wpAny_take (i := 2) (v := ?_) rfl (by kernel_rfl) (by kernel_rfl) (by kernel_rfl) (fun _ _ _ h => h) (Or.inl ⟨by kernel_rfl, ?_⟩) ?_
   rotate_left
   ·intro w; go_simp; try with_reducible rfl
   (try simp only [Act.put]); (try simp only [List.setIfInBounds_toArray]); (try simp only [List.set_cons_succ]); (try simp only [List.set_cons_zero])
   refine wpAny_take (i := 3) (v := ?_) rfl (by kernel_rfl) (by kernel_rfl) (by kernel_rfl) (fun _ _ _ h => h) (Or.inl ⟨by kernel_rfl, ?_⟩) ?_
   rotate_left
   ·intro w; go_simp; try with_reducible rfl
   (try simp only [Act.put]); (try simp only [List.setIfInBounds_toArray]); (try simp only [List.set_cons_succ]); (try simp only [List.set_cons_zero])
   refine wpAny_ready (rs := [1, 4]) (by kernel_rfl) (by simp) ?_
   refine AllReady.cons rfl (fun K hK => ?_) ?_
   ·go_simp
    refine hK _ _ ?_; clear hK K
    refine wpAny_ready (rs := [4]) (by kernel_rfl) (by simp) ?_
    refine AllReady.cons rfl (fun K hK => ?_) ?_
    ·go_simp
     refine (Get_ok rangedW rangedW_asc r _ _ rfl (by decide +kernel) _ (dbAt_below HD.out HSQ.out.bel)).mono ?_
     rintro x wz ⟨rfl, hbz⟩
     rw [HCX.out]
     have HSZ := Lib.hid (HSQ.out.below hbz); clear hbz
     obtain ⟨z0, z1, z2, z3, z4⟩ := HSZ.out.box
     dsimp only
     refine hK _ _ ?_; clear hK K
     refine wpAny_ready (rs := [5]) (by kernel_rfl) (by simp) ?_
     refine AllReady.cons rfl (fun K hK => ?_) ?_
     ·go_simp
      refine hK _ _ ?_; clear hK K
      refine wpAny_ready (rs := [6]) (by kernel_rfl) (by simp) ?_
      refine AllReady.cons rfl (fun K hK => ?_) ?_
      ·skip
       refine wp_app _ (.tmp 30) (.tmp 34) 36 rfl w1.heap.size 3 i0 _ 8 Tryz.underlying36 hI0 hz0 hz1 hz2 rfl (.slice A2 m c2) m (intsW cls) rfl HSZ.out.alloc2 (some ⟨wz.heap.size, 0, none⟩) 1 1 [.int .i64 cx] rfl (src_one _ _ _) (by simp [Value.oneCell']) HLEN.out.1 HLEN.out.2 (by rw [World.size_alloc]; have := HSZ.out.bel.size; omega) ?_
       intro v' wq ho hg hn
       obtain ⟨B2, d2, rfl, _⟩ := own_slice3 ho
       have HSR := Lib.hid (HSZ.out.grow2 ho hg hn); clear ho hg hn
       obtain ⟨q0, q1, q2, q3, q4⟩ := HSR.out.box
       have q3' := q3 1; clear q3
       refine hK _ _ ?_; clear hK K
       refine wpAny_take (i := 7) (v := ?_) rfl (by kernel_rfl) (by kernel_rfl) (by kernel_rfl) (fun _ _ _ h => h) (Or.inl ⟨by kernel_rfl, ?_⟩) ?_
       rotate_left
       ·intro w; go_simp; try with_reducible rfl
       (try simp only [Act.put]); (try simp only [List.setIfInBounds_toArray]); (try simp only [List.set_cons_succ]); (try simp only [List.set_cons_zero])
       refine wpAny_ready (rs := [8]) (by kernel_rfl) (by simp) ?_
       refine AllReady.cons rfl (fun K hK => ?_) ?_
       ·go_simp
        refine hK _ _ ?_; clear hK K
        refine wpAny_done (by kernel_rfl) ?_ _
        go_wp2_with fail
        exact KEY.out _ _ _ _ _ (HSR.out.set2 _)
       exact AllReady.nil
      exact AllReady.nil
     exact AllReady.nil
    exact AllReady.nil
   refine AllReady.cons rfl (fun K hK => ?_) ?_
   ·go_simp
    refine (Get_ok rangedW rangedW_asc r _ _ rfl (by decide +kernel) _ (dbAt_below HD.out HSQ.out.bel)).mono ?_
    rintro x wz ⟨rfl, hbz⟩
    rw [HCX.out]
    have HSZ := Lib.hid (HSQ.out.below hbz); clear hbz
    obtain ⟨z0, z1, z2, z3, z4⟩ := HSZ.out.box
    dsimp only
    refine hK _ _ ?_; clear hK K
    refine wpAny_ready (rs := [1, 5]) (by kernel_rfl) (by simp) ?_
    refine AllReady.cons rfl (fun K hK => ?_) ?_
    ·go_simp
     refine hK _ _ ?_; clear hK K
     refine wpAny_ready (rs := [5]) (by kernel_rfl) (by simp) ?_
     refine AllReady.cons rfl (fun K hK => ?_) ?_
     ·go_simp
      refine hK _ _ ?_; clear hK K
      refine wpAny_ready (rs := [6]) (by kernel_rfl) (by simp) ?_
      refine AllReady.cons rfl (fun K hK => ?_) ?_
      ·skip
       refine wp_app _ (.tmp 30) (.tmp 34) 36 rfl w1.heap.size 3 i0 _ 8 Tryz.underlying36 hI0 hz0 hz1 hz2 rfl (.slice A2 m c2) m (intsW cls) rfl HSZ.out.alloc2 (some ⟨wz.heap.size, 0, none⟩) 1 1 [.int .i64 cx] rfl (src_one _ _ _) (by simp [Value.oneCell']) HLEN.out.1 HLEN.out.2 (by rw [World.size_alloc]; have := HSZ.out.bel.size; omega) ?_
       intro v' wq ho hg hn
       obtain ⟨B2, d2, rfl, _⟩ := own_slice3 ho
       have HSR := Lib.hid (HSZ.out.grow2 ho hg hn); clear ho hg hn
       obtain ⟨q0, q1, q2, q3, q4⟩ := HSR.out.box
       have q3' := q3 1; clear q3
       refine hK _ _ ?_; clear hK K
       refine wpAny_take (i := 7) (v := ?_) rfl (by kernel_rfl) (by kernel_rfl) (by kernel_rfl) (fun _ _ _ h => h) (Or.inl ⟨by kernel_rfl, ?_⟩) ?_
       rotate_left
       ·intro w; go_simp; try with_reducible rfl
       (try simp only [Act.put]); (try simp only [List.setIfInBounds_toArray]); (try simp only [List.set_cons_succ]); (try simp only [List.set_cons_zero])
       refine wpAny_ready (rs := [8]) (by kernel_rfl) (by simp) ?_
       refine AllReady.cons rfl (fun K hK => ?_) ?_
       ·go_simp
        refine hK _ _ ?_; clear hK K
        refine wpAny_done (by kernel_rfl) ?_ _
        go_wp2_with fail
        exact KEY.out _ _ _ _ _ (HSR.out.set2 _)
       exact AllReady.nil
      exact AllReady.nil
     exact AllReady.nil
    refine AllReady.cons rfl (fun K hK => ?_) ?_
    ·go_simp
     refine hK _ _ ?_; clear hK K
     refine wpAny_ready (rs := [1]) (by kernel_rfl) (by simp) ?_
     refine AllReady.cons rfl (fun K hK => ?_) ?_
     ·go_simp
      refine hK _ _ ?_; clear hK K
      refine wpAny_ready (rs := [6]) (by kernel_rfl) (by simp) ?_
      refine AllReady.cons rfl (fun K hK => ?_) ?_
      ·skip
       refine wp_app _ (.tmp 30) (.tmp 34) 36 rfl w1.heap.size 3 i0 _ 8 Tryz.underlying36 hI0 hz0 hz1 hz2 rfl (.slice A2 m c2) m (intsW cls) rfl HSZ.out.alloc2 (some ⟨wz.heap.size, 0, none⟩) 1 1 [.int .i64 cx] rfl (src_one _ _ _) (by simp [Value.oneCell']) HLEN.out.1 HLEN.out.2 (by rw [World.size_alloc]; have := HSZ.out.bel.size; omega) ?_
       intro v' wq ho hg hn
       obtain ⟨B2, d2, rfl, _⟩ := own_slice3 ho
       have HSR := Lib.hid (HSZ.out.grow2 ho hg hn); clear ho hg hn
       obtain ⟨q0, q1, q2, q3, q4⟩ := HSR.out.box
       have q3' := q3 1; clear q3
       refine hK _ _ ?_; clear hK K
       refine wpAny_take (i := 7) (v := ?_) rfl (by kernel_rfl) (by kernel_rfl) (by kernel_rfl) (fun _ _ _ h => h) (Or.inl ⟨by kernel_rfl, ?_⟩) ?_
       rotate_left
       ·intro w; go_simp; try with_reducible rfl
       (try simp only [Act.put]); (try simp only [List.setIfInBounds_toArray]); (try simp only [List.set_cons_succ]); (try simp only [List.set_cons_zero])
       refine wpAny_ready (rs := [8]) (by kernel_rfl) (by simp) ?_
       refine AllReady.cons rfl (fun K hK => ?_) ?_
       ·go_simp
        refine hK _ _ ?_; clear hK K
        refine wpAny_done (by kernel_rfl) ?_ _
        go_wp2_with fail
        exact KEY.out _ _ _ _ _ (HSR.out.set2 _)
       exact AllReady.nil
      exact AllReady.nil
     exact AllReady.nil
    exact AllReady.nil
   exact AllReady.nil
  ·obtain rfl : e = s.size := by omega
   have hz : marksFrom t f s.size = [] := by
    cases f with
    | zero => rfl
    | succ f => unfold marksFrom; rw [if_neg (by have := HSS.out; omega)]
   rw [hz, List.map_nil, List.append_nil] at hla hlc
   subst hla
   subst hlc
   clear hz
   obtain ⟨j0, j1, j2, j3, j4⟩ := hSL.box
   have hW1 : W.heap.size < w1.heap.size := by have := HB.out.size; rw [World.size_alloc] at this; omega
   have hblk : wr.heap[W.heap.size]? = some (.cells #[.slice none 0 0, .slice none 0 0, .int .i64 0] 105 (0, 0)) := (hSL.bel.block _ hW1).trans ((HB.out.block _ (by simp)).trans (heap_alloc_new W _))
   have r0 := cell_of_row wr W.heap.size 0 _ _ _ hblk
   have r1 := cell_of_row wr W.heap.size 1 _ _ _ hblk
   have r2 := cell_of_row wr W.heap.size 2 _ _ _ hblk
   have f0 := frozen_of_row wr W.heap.size 0 _ _ hblk
   have f1 := frozen_of_row wr W.heap.size 1 _ _ hblk
   have f2 := frozen_of_row wr W.heap.size 2 _ _ hblk
   have h3 := heap_lt hblk
   have hnx := fun ty => run_next_end_at (P := Tryz.prog) wr _ s s.size ty hit hlt
   have HBW := Lib.hid (HB.out.trans (hSL.bel.mono HB.out.size))
   have HBLK := Lib.hid hblk
   have HM := Lib.hid hm
   clear j3 hblk hSL hf he hm hlt
   go_wp2_with fail
   have hh := heap_setCell_same _ _ 2 _ _ (.int .i64 (s.size : Int)) (heap_setCell_same _ _ 1 _ _ (.slice A2 m c2) (heap_setCell_same wr _ 0 _ _ (.slice A1 m c1) HBLK.out))
   refine bodyPost_ret (results_cell_row rfl _ _ W.heap.size _ _ _ _ rfl hh Tryz.underlying105 rfl (by kernel_rfl)) rfl ?_
   have hmm : m ≤ 100000 := by have := HM.out; have := HSS.out; have := HLT.out; omega
   refine ⟨A1, m, c1, A2, c2, by have := HM.out; have := HSS.out; have := HLT.out; omega, by rw [← HSS.out]; rfl, ints_own (base := w1.heap.size) (c := c1) ?_ hmm, ints_own (base := w1.heap.size) (c := c2) ?_ hmm, ?_⟩
   ·exact ownsRow_setCell_below (ownsRow_setCell_below (ownsRow_setCell_below HSL.out.o1 hW1 _) hW1 _) hW1 _
   ·exact ownsRow_setCell_below (ownsRow_setCell_below (ownsRow_setCell_below HSL.out.o2 hW1 _) hW1 _) hW1 _
   ·have hb0 : Below W.heap.size W w1 := ((Below.refl _ W).alloc (Nat.le_refl _) _).trans (HB.out.mono (by simp))
    have hb1 : Below W.heap.size W wr := hb0.trans (HSL.out.bel.mono (Nat.le_of_lt hW1))
    exact ((hb1.setCell (Nat.le_refl _) _).setCell (Nat.le_refl _) _).setCell (Nat.le_refl _) _
end
section
open Go.Shelf Go.RowKit Go.Lib Go.Proofs.YtmpkgddioiaonaaGreatDoor.Am
/-- the loop's state: the box of the text, the row of bounds -/
structure BL (w1 : World) (x1 x2 : Value) (L : Int) (v : Value) (m : Nat) (zs : List Int) (w : World) : Prop where
 bel : Below w1.heap.size w1 w
 blk : w.heap[w1.heap.size]? = some (.cells #[x1, x2, .int .i64 L] 105 (0, 0))
 own : w.ownsRow w1.heap.size 3 1 v m (intsW zs)
section
variable {w1 w w' : World} {x1 x2 v : Value} {L : Int} {m : Nat} {zs : List Int}
theorem BL.below (h : BL w1 x1 x2 L v m zs w) (hb : Below w.heap.size w w') : BL w1 x1 x2 L v m zs w' :=
 ⟨h.bel.trans (hb.mono h.bel.size), below_blk hb h.blk, own_below hb h.own⟩
theorem BL.alloc1 (h : BL w1 x1 x2 L v m zs w) {o : Obj} : (w.alloc o).ownsRow w1.heap.size 3 1 v m (intsW zs) := own_alloc h.own
theorem BL.box (h : BL w1 x1 x2 L v m zs w) : w.cell? ⟨w1.heap.size, 0, none⟩ = some x1 ∧ w.cell? ⟨w1.heap.size, 1, none⟩ = some x2 ∧ w.cell? ⟨w1.heap.size, 2, none⟩ = some (.int .i64 L) ∧ w1.heap.size < w.heap.size :=
 ⟨by rw [cell_of_row _ _ _ _ _ _ h.blk]; rfl, by rw [cell_of_row _ _ _ _ _ _ h.blk]; rfl, by rw [cell_of_row _ _ _ _ _ _ h.blk]; rfl, heap_lt h.blk⟩
theorem BL.grow (h : BL w1 x1 x2 L v m zs w) {o : Obj} {v' : Value} {x : Int} (ho : w'.ownsRow w1.heap.size 3 1 v' (m + 1) (intsW zs ++ [.int .i64 x])) (hg : (w.alloc o).grownBy w' v.ownBlock) : BL w1 x1 x2 L v' (m + 1) (zs ++ [x]) w' := by
 have h' := h.below ((Below.refl _ w).alloc (Nat.le_refl _) o)
 refine ⟨h'.bel.grown hg h'.bel.size (fun k hk => (own_lt h'.own hk).1), ?_, by rw [intsW_app]; exact ho⟩
 rw [hg.block _ (heap_lt h'.blk) (own_ne h'.own h'.blk (fun _ h => by injection h with _ h; exact absurd h (by decide)))]; exact h'.blk
end
theorem LENB {m e n : Nat} (h1 : m ≤ e) (h2 : e ≤ n) (h3 : n ≤ 100000) : m + 1 ≤ maxLen ∧ (m + 1) * 8 ≤ 140737488355328 := ⟨by simp only [maxLen]; omega, by omega⟩
/-- the bounds from the rune number k on -/
def bndF (cls ats : List Int) : Nat → Nat → List Int
 | 0, _ => []
 | f + 1, k => if k = 0 ∨ cutF cls k = true then ats.getD k 0 :: bndF cls ats f (k + 1) else bndF cls ats f (k + 1)
def wordB (t : List UInt8) : List Int := bndF (clsF t) (atsF t) (marks t).length 0 ++ if 0 < t.length then [(t.length : Int)] else []
def BoundsXPost (t : List UInt8) (W : World) (e : Ending) (w' : World) : Prop := ∃ A n c, e = .returned (.slice A n c) ∧ IntsR w' A n (wordB t) ∧ (∀ a, A = some a → W.heap.size ≤ a.block) ∧ Below W.heap.size W w'
set_option maxRecDepth 100000 in
set_option maxHeartbeats 8000000 in
theorem BoundsX_ok (t : List UInt8) (W : World) (hN : ∀ w, Below W.heap.size W w → NewW w) (hn : t.length ≤ 10000) : Calls Tryz.prog 25 #[.string ⟨t.toArray⟩] W (BoundsXPost t W) := by
 have HSC := Lib.hid (scanX_ok t W hN hn)
 obtain ⟨s, hs⟩ : ∃ s : ByteArray, (⟨t.toArray⟩ : ByteArray) = s := ⟨_, rfl⟩
 have hss : s.size ≤ 10000 := by rw [size_mk t s hs]; exact hn
 rw [hs] at HSC ⊢
 have HSS := Lib.hid hss
 have HSL := Lib.hid (size_mk t s hs)
 clear hs hss hN hn
 obtain ⟨i0, hI0, hz0, hz1, hz2⟩ := info_parts int_info
 go_enter Tryz.func25, Tryz.ntmps25
 go_wp2_with (go_at_call 49; refine HSC.out.mono ?_; rintro e w1 ⟨A1, m, c1, A2, c2, hm4, rfl, h1, h2, hb⟩; have H1 := Lib.hid h1; have H2 := Lib.hid h2; have HB := Lib.hid hb; clear h1 h2 hb)
 obtain ⟨ats, hats⟩ : ∃ l, atsF t = l := ⟨_, rfl⟩
 obtain ⟨cls, hcls⟩ : ∃ l, clsF t = l := ⟨_, rfl⟩
 obtain ⟨Z, hZ⟩ : ∃ Z, bndF cls ats m 0 = Z := ⟨_, rfl⟩
 have hml : (marks t).length = m := by rw [← H1.out.len]; unfold atsF; rw [List.length_map]
 have HWB := Lib.hid (show wordB t = Z ++ if 0 < t.length then [(t.length : Int)] else [] by unfold wordB; rw [hats, hcls, hml, hZ])
 rw [hats] at H1
 rw [hcls] at H2
 have HZ := Lib.hid hZ
 clear hats hcls hZ hml
 obtain ⟨L, hL⟩ : ∃ L : Int, (t.length : Int) = L := ⟨_, rfl⟩
 rw [hL]
 clear hL
 have hsm := H1.out.small
 go_loopw [12, 4] (fun vi vo wr => ∃ (k mo f : Nat) (Ao : Option Addr) (co : Nat) (zs : List Int), k + f = m ∧ zs ++ bndF cls ats f k = Z ∧ vi = .int .i64 k ∧ vo = .slice Ao mo co ∧ mo ≤ k ∧ BL w1 (.slice A1 m c1) (.slice A2 m c2) L (.slice Ao mo co) mo zs wr) (fun vi _ _ => m - (RowKit.intOf vi).toNat)
 case atStart =>
  exact ⟨0, 0, m, none, 0, [], Nat.zero_add _, HZ.out, rfl, rfl, Nat.le_refl _, (Below.refl _ w1).alloc (Nat.le_refl _) _, heap_alloc_new w1 _, ⟨rfl, .inl ⟨rfl, rfl⟩⟩⟩
 case round =>
  obtain ⟨k, mo, f, Ao, co, zs, hkf, hzz, rfl, rfl, hmo, hBL⟩ := hrel
  have hk : k ≤ m := by omega
  have HBL := Lib.hid hBL; clear hBL
  by_cases hlt : k < m
  ·obtain ⟨g1, o1, rfl, hg1, hc1⟩ := H1.out.at_ (by omega)
   obtain ⟨g2, o2, rfl, hg2, hc2⟩ := H2.out.at_ (by omega)
   have ca : wr.cell? ⟨g1, o1 + k, none⟩ = some (.int .i64 (ats.getD k 0)) := (HBL.out.bel.cell (p := ⟨g1, o1 + k, none⟩) hg1).trans (hc1 k hlt)
   obtain ⟨a, ha⟩ : ∃ a, ats.getD k 0 = a := ⟨_, rfl⟩
   rw [ha] at ca
   obtain ⟨f', rfl⟩ : ∃ f', f = f' + 1 := ⟨f - 1, by omega⟩
   unfold bndF at hzz
   rw [ha] at hzz
   have HCL := Lib.hid (ClsAt.below ⟨H2.out.len, H2.out.small, hg2, hc2⟩ hg2 HBL.out.bel)
   clear ha hc1 hc2 hg1 hg2
   obtain ⟨b0, b1, b2, b3⟩ := HBL.out.box
   have HLEN := Lib.hid (LENB hmo hk hsm)
   obtain ⟨k', hk'⟩ : ∃ k', k + 1 = k' := ⟨_, rfl⟩
   have hwk : (k : Int) + 1 = (k' : Int) := by omega
   have HWK := Lib.hid hwk; clear hwk
   have KEY := Lib.hid (fun (mo' : Nat) (Ao' : Option Addr) (co' : Nat) (zs' : List Int) (w' : World) (hz' : zs' ++ bndF cls ats f' k' = Z) (h1 : mo' ≤ k') (h : BL w1 (.slice (some ⟨g1, o1, none⟩) m c1) (.slice (some ⟨g2, o2, none⟩) m c2) L (.slice Ao' mo' co') mo' zs' w') =>
    show (∃ (k mo f : Nat) (Ao : Option Addr) (co : Nat) (zs : List Int), k + f = m ∧ zs ++ bndF cls ats f k = Z ∧ Value.int .i64 (k' : Int) = .int .i64 k ∧ Value.slice Ao' mo' co' = .slice Ao mo co ∧ mo ≤ k ∧ BL w1 (.slice (some ⟨g1, o1, none⟩) m c1) (.slice (some ⟨g2, o2, none⟩) m c2) L (.slice Ao mo co) mo zs w') ∧ m - (RowKit.intOf (.int .i64 (k' : Int))).toNat < m - (RowKit.intOf (.int .i64 (k : Int))).toNat from
     ⟨⟨k', mo', f', Ao', co', zs', by omega, hz', rfl, rfl, h1, h⟩, by simp [RowKit.intOf]; omega⟩)
   rw [hk'] at hzz
   have hmk : mo + 1 ≤ k' := by omega
   have hmk2 : mo ≤ k' := by omega
   have HMK := Lib.hid (And.intro hmk hmk2)
   clear hmk hmk2 hmo hk hk' hkf
   rcases Nat.eq_zero_or_pos k with h0 | h0
   ·rw [if_pos (Or.inl h0)] at hzz
    have HZZ := Lib.hid (show (zs ++ [a]) ++ bndF cls ats f' k' = Z by rw [List.append_assoc]; exact hzz)
    clear hzz
    have hk0 : ((k : Int) == 0) = true := by simp [h0]
    have hk1 : (k : Int) = 0 := by omega
    have HK1 := Lib.hid hk1; clear hk1 h0
    go_wp2_with (at_builtin; refine wpList_app _ rfl (.tmp 24) (.tmp 26) 36 rfl w1.heap.size 3 i0 _ 8 Tryz.underlying36 hI0 hz0 hz1 hz2 rfl (.slice Ao mo co) mo (intsW zs) rfl HBL.out.alloc1 _ 1 1 [.int .i64 a] rfl (src_one _ _ _) (by simp [Value.oneCell']) HLEN.out.1 HLEN.out.2 (by rw [World.size_alloc]; have := HBL.out.bel.size; omega) ?_; intro v' wp ho hg hn; obtain ⟨B1, d1, rfl, _⟩ := own_slice3 ho; have HBG := Lib.hid (HBL.out.grow ho hg); clear ho hg hn ca b0 b1 b2 b3)
    rw [HWK.out]
    exact KEY.out _ _ _ _ _ HZZ.out HMK.out.1 HBG.out
   ·have HZZ := Lib.hid hzz; clear hzz
    have hk0 : ((k : Int) == 0) = false := by simp; omega
    have hk1 : ¬ (k : Int) = 0 := by omega
    go_wp2_with (first | (go_at_call 50; refine (cutX_ok cls _ _ _ _ _ _ _ _ k _ HCL.out h0 hlt).mono ?_; rintro e w2 ⟨rfl, hb⟩; have HBL := Lib.hid (HBL.out.below hb); clear hb; cases hcb : cutF cls k <;> (have HCB := Lib.hid hcb; clear hcb)) | (at_builtin; refine wpList_app _ rfl (.tmp 24) (.tmp 26) 36 rfl w1.heap.size 3 i0 _ 8 Tryz.underlying36 hI0 hz0 hz1 hz2 rfl (.slice Ao mo co) mo (intsW zs) rfl HBL.out.alloc1 _ 1 1 [.int .i64 a] rfl (src_one _ _ _) (by simp [Value.oneCell']) HLEN.out.1 HLEN.out.2 (by rw [World.size_alloc]; have := HBL.out.bel.size; omega) ?_; intro v' wp ho hg hn; obtain ⟨B1, d1, rfl, _⟩ := own_slice3 ho; have HBG := Lib.hid (HBL.out.grow ho hg); clear ho hg hn ca b0 b1 b2 b3))
    ·rw [HWK.out]
     exact KEY.out _ _ _ _ _ (by have := HZZ.out; rwa [if_neg (fun h => h.elim (fun h => by omega) (fun h => by rw [HCB.out] at h; exact Bool.false_ne_true h))] at this) HMK.out.2 HBL.out
    ·rw [HWK.out]
     exact KEY.out _ _ _ _ _ (by have := HZZ.out; rw [if_pos (Or.inr HCB.out)] at this; rw [List.append_assoc]; exact this) HMK.out.1 HBG.out
  ·obtain rfl : k = m := by omega
   obtain rfl : f = 0 := by omega
   have hzZ : zs = Z := by rw [← hzz]; exact (List.append_nil zs).symm
   subst hzZ
   clear hzz
   have HLEN := Lib.hid (LENB hmo hk hsm)
   have HMO := Lib.hid (show mo + 1 ≤ 100000 by omega)
   have HFIN := Lib.hid (fun (A : Option Addr) (n c : Nat) (z : List Int) (w' : World) (hn : n ≤ 100000) (hz : z = wordB t) (h : BL w1 (.slice A1 k c1) (.slice A2 k c2) L (.slice A n c) n z w') =>
    show BoundsXPost t W (.returned (.slice A n c)) w' from
     ⟨A, n, c, rfl, hz ▸ ints_own h.own hn, fun a ha => by subst ha; exact Nat.le_trans HB.out.size (own_lt h.own rfl).1, HB.out.trans (h.bel.mono HB.out.size)⟩)
   clear hk hlt hmo hsm hm4
   by_cases hs0 : 0 < s.size
   ·go_wp2_with (at_builtin; refine wpList_app _ rfl (.tmp 32) (.tmp 35) 36 rfl w1.heap.size 3 i0 _ 8 Tryz.underlying36 hI0 hz0 hz1 hz2 rfl (.slice Ao mo co) mo (intsW zs) rfl HBL.out.alloc1 _ 1 1 [.int .i64 s.size] rfl (src_one _ _ _) (by simp [Value.oneCell']) HLEN.out.1 HLEN.out.2 (by rw [World.size_alloc]; have := HBL.out.bel.size; omega) ?_; intro v' wp ho hg hn; obtain ⟨B1, d1, rfl, _⟩ := own_slice3 ho; have HBG := Lib.hid (HBL.out.grow ho hg); clear ho hg hn)
    go_ret
    exact HFIN.out _ _ _ _ _ HMO.out (by rw [HWB.out, if_pos (by rw [← HSL.out]; exact hs0), HSL.out]) HBG.out
   ·skip
    go_wp2_with fail
    go_ret
    exact HFIN.out _ _ _ _ _ (Nat.le_of_succ_le HMO.out) (by rw [HWB.out, if_neg (by rw [← HSL.out]; exact hs0), List.append_nil]) HBL.out
end
end Go.Proofs.YtmpkgddioiaonaaGreatDoor.searchLeft
