/- One place is added: what the closure of places computes. -/
import Derived.Test.YtfmnninijakknaaGreatDoorSB
import Derived.Deep.RegionLaw
namespace Go.Proofs.YtfmnninijakknaaGreatDoor.searchPieces
section
open Go.Shelf Go.RowKit Go.Lib
open Pieces (bt width full)
/-! ### places -/
def placeV (p : Nat × List UInt8) : List Value := [.int .i64 p.1, .bool true, .string ⟨p.2.toArray⟩]
def placesV (l : List (Nat × List UInt8)) : List Value := l.flatMap placeV
theorem placesV_len (l : List (Nat × List UInt8)) : (placesV l).length = l.length * 3 := by
  unfold placesV
  induction l with
  | nil => rfl
  | cons p l ih => rw [List.flatMap_cons, List.length_append, ih]; simp [placeV]; omega
theorem placesV_app (l : List (Nat × List UInt8)) (p : Nat × List UInt8) : placesV (l ++ [p]) = placesV l ++ placeV p := by simp [placesV]
theorem place_info : (Tryz.prog.info? 56).map (fun i => (i.zero, i.size, i.bytes)) = some (some (.agg #[.int .i64 0, .bool false, .string ⟨#[]⟩]), 3, 32) := by kernel_rfl
theorem one3 (a b c : Value) (ha : a.oneCell' = true) (hb : b.oneCell' = true) (hc : c.oneCell' = true) : ∀ u ∈ [a, b, c], u.oneCell' = true := by
  intro u hu
  simp only [List.mem_cons, List.not_mem_nil, or_false] at hu
  rcases hu with rfl | rfl | rfl <;> assumption
def AddPost (outb : Nat) (v : Value) (base : Nat) (l : List (Nat × List UInt8)) (w : World) (e : Ending) (w' : World) : Prop :=
  (∃ r, e = .returned r) ∧ Fr (fun k => k = outb ∨ v.ownBlock = some k) w w' ∧ ∃ v', w'.heap[outb]? = some (.cells #[v'] 53 (0, 0)) ∧ w'.ownsRow base 56 3 v' l.length (placesV l) ∧ (v'.ownBlock = v.ownBlock ∨ ∃ g, v'.ownBlock = some g ∧ w.heap.size ≤ g)
theorem add_fr {w w3 : World} {o : Obj} {r : Option Nat} (h : (w.drew.alloc o).grownBy w3 r) : Fr (fun k => r = some k) w w3 :=
  ((Fr.drew _ w).trans (Fr.alloc _ w.drew o)).trans (Fr.grown h (fun _ h _ => h))
theorem blk_ty {w : World} {g g' : Nat} {t t' : TypeId} {cs cs' : Array Value} {fr fr' : Nat × Nat} (h : w.heap[g]? = some (.cells cs t fr)) (h' : w.heap[g']? = some (.cells cs' t' fr')) (hne : t ≠ t') : g ≠ g' := by
  rintro rfl
  rw [h] at h'
  injection h' with h'
  injection h' with _ ht
  exact hne ht
theorem add_end {outb base n g3 cap3 k : Nat} {sh : List UInt8} {l : List (Nat × List UInt8)} {w w3 : World} {o : Obj} {v u : Value} {r : Value} {e : Ending} (hn : l.length = n) (_ : base ≤ w.heap.size)
    (hown : w3.ownsRow base 56 3 (.slice (some ⟨g3, 0, none⟩) (n + 1) cap3) (n + 1) (placesV l ++ [.int .i64 k, .bool true, .string ⟨sh.toArray⟩])) (hg : (w.drew.alloc o).grownBy w3 v.ownBlock)
    (hat : v.ownBlock = some g3 ∨ g3 = (w.drew.alloc o).heap.size) (hb : w3.heap[outb]? = some (.cells #[u] 53 (0, 0))) (he : e = .returned r) :
    AddPost outb v base (l ++ [(k, sh)]) w e (w3.setCell ⟨outb, 0, none⟩ (.slice (some ⟨g3, 0, none⟩) (n + 1) cap3)) := by
  obtain ⟨_, _, cur, hcur⟩ := own_lt hown (g := g3) rfl
  have hne : g3 ≠ outb := blk_ty hcur hb (by decide)
  have hf : Fr (fun k => k = outb) w3 (w3.setCell ⟨outb, 0, none⟩ (.slice (some ⟨g3, 0, none⟩) (n + 1) cap3)) := Fr.set _ _ _ (fun _ => rfl)
  refine ⟨⟨r, he⟩, ((add_fr hg).mono (fun k _ h => .inr h)).trans (hf.mono (fun k _ h => .inl h)), _, set_blk hb 0 _, ?_, ?_⟩
  · rw [placesV_app, List.length_append, hn]
    exact hf.own hown (fun g hg => by cases hg; exact hne)
  · rcases hat with h | h
    · exact .inl h.symm
    · refine .inr ⟨g3, rfl, ?_⟩
      rw [h]
      exact Nat.le_of_lt (by simp)
end
section
open Go.Shelf Go.RowKit Go.Lib
open Pieces (bt width full)
set_option maxHeartbeats 10000000 in
set_option maxRecDepth 100000 in
theorem add_ok (k : Nat) (sh : List UInt8) (l : List (Nat × List UInt8)) (n ob outb inb lb wb base : Nat) (v : Value) (w : World)
    (h0 : w.cell? ⟨ob, 0, none⟩ = some (.bool false)) (h1 : w.cell? ⟨ob, 1, none⟩ = some (.bool false)) (h2 : w.cell? ⟨ob, 2, none⟩ = some (.bool false))
    (hb : w.heap[outb]? = some (.cells #[v] 53 (0, 0))) (hown : w.ownsRow base 56 3 v n (placesV l)) (hn : l.length = n) (hsm : n ≤ 1000000) (hbase : base ≤ w.heap.size) :
    Calls Tryz.prog 30 #[.int .i64 k, .string ⟨sh.toArray⟩, .pointer (some ⟨ob, 0, none⟩), .pointer (some ⟨outb, 0, none⟩), .pointer (some ⟨inb, 0, none⟩), .pointer (some ⟨lb, 0, none⟩), .pointer (some ⟨wb, 0, none⟩)] w (AddPost outb v base (l ++ [(k, sh)]) w) := by
  have hc : w.cell? ⟨outb, 0, none⟩ = some v := by rw [cell_of_row w outb 0 _ _ _ hb]; rfl
  obtain ⟨A, c, rfl, _⟩ := own_slice hown
  have HB := Lib.hid hb; have HO := Lib.hid hown; have HN := Lib.hid hn; have HBS := Lib.hid hbase
  clear hb hown hn hbase
  go_enter Tryz.func30, Tryz.ntmps30
  go_wp2
  have hca := cell_alloc (w := w.drew) hc (.cells #[.int .i64 k, .bool true, .string ⟨sh.toArray⟩] 56)
  have hca2 := cell_alloc (w := w) hc (.cells #[.int .i64 k, .bool true, .string ⟨sh.toArray⟩] 56)
  obtain ⟨i0, hi0, hz0, hz1, hz2⟩ := info_parts place_info
  have hne : ¬ (Value.slice A n c).ownBlock = some outb := fun hg => by
    obtain ⟨_, _, cur, hcur⟩ := own_lt HO.out hg
    rw [HB.out] at hcur
    injection hcur with hcur; injection hcur with _ ht
    cases ht
  have HNE := Lib.hid hne; clear hne
  refine wp_region_any (by kernel_rfl) ?_
  change wpAny _ _ _ _ _ _ _ (World.drew _)
  refine wpAny_take (i := 1) (v := ?_) rfl (by kernel_rfl) (by kernel_rfl) (by kernel_rfl) (fun _ _ _ h => h) (Or.inl ⟨by rfl, ?_⟩) ?_
  rotate_left
  · intro w; go_simp; try with_reducible rfl
  simp only [Act.put, List.setIfInBounds_toArray]
  refine wpAny_take (i := 2) (v := ?_) rfl (by kernel_rfl) (by kernel_rfl) (by kernel_rfl) (fun _ _ _ h => h) (Or.inl ⟨by rfl, ?_⟩) ?_
  rotate_left
  · intro w; go_simp; try with_reducible rfl
  simp only [Act.put]
  refine wpAny_take (i := 22) (v := ?_) rfl (by kernel_rfl) (by kernel_rfl) (by kernel_rfl) (fun _ _ _ h => h) (Or.inl ⟨by rfl, ?_⟩) ?_
  rotate_left
  · intro w; go_simp; try with_reducible rfl
  simp only [Act.put]
  refine wpAny_ready (rs := [0, 3]) (by kernel_rfl) (by simp) ?_
  refine AllReady.cons rfl (fun K hK => ?_) ?_
  · go_simp
    refine hK _ _ ?_; clear hK K
    refine wpAny_ready (rs := [3]) (by kernel_rfl) (by simp) ?_
    refine AllReady.cons rfl (fun K hK => ?_) ?_
    · go_simp
      refine hK _ _ ?_; clear hK K
      refine wpAny_take (i := 4) (v := ?_) rfl (by kernel_rfl) (by kernel_rfl) (by kernel_rfl) (fun _ _ _ h => h) (Or.inl ⟨by rfl, ?_⟩) ?_
      rotate_left
      · intro w; go_simp; try with_reducible rfl
      simp only [Act.put, List.setIfInBounds_toArray]
      refine wpAny_take (i := 5) (v := ?_) rfl (by kernel_rfl) (by kernel_rfl) (by kernel_rfl) (fun _ _ _ h => h) (Or.inl ⟨by rfl, ?_⟩) ?_
      rotate_left
      · intro w; go_simp; try with_reducible rfl
      simp only [Act.put]
      refine wpAny_take (i := 6) (v := undef) rfl (by kernel_rfl) (by kernel_rfl) (by kernel_rfl) (fun _ _ _ h => h) (Or.inr ⟨by rfl, rfl⟩) ?_
      simp only [Act.put]
      refine wpAny_take (i := 7) (v := undef) rfl (by kernel_rfl) (by kernel_rfl) (by kernel_rfl) (fun _ _ _ h => h) (Or.inr ⟨by rfl, rfl⟩) ?_
      simp only [Act.put]
      refine wpAny_take (i := 8) (v := undef) rfl (by kernel_rfl) (by kernel_rfl) (by kernel_rfl) (fun _ _ _ h => h) (Or.inr ⟨by rfl, rfl⟩) ?_
      simp only [Act.put]
      refine wpAny_take (i := 9) (v := undef) rfl (by kernel_rfl) (by kernel_rfl) (by kernel_rfl) (fun _ _ _ h => h) (Or.inr ⟨by rfl, rfl⟩) ?_
      simp only [Act.put]
      refine wpAny_take (i := 10) (v := ?_) rfl (by kernel_rfl) (by kernel_rfl) (by kernel_rfl) (fun _ _ _ h => h) (Or.inl ⟨by rfl, ?_⟩) ?_
      rotate_left
      · intro w; go_simp; try with_reducible rfl
      simp only [Act.put]
      refine wpAny_take (i := 11) (v := ?_) rfl (by kernel_rfl) (by kernel_rfl) (by kernel_rfl) (fun _ _ _ h => h) (Or.inl ⟨by rfl, ?_⟩) ?_
      rotate_left
      · intro w; go_simp; try with_reducible rfl
      simp only [Act.put]
      refine wpAny_take (i := 12) (v := ?_) rfl (by kernel_rfl) (by kernel_rfl) (by kernel_rfl) (fun _ _ _ h => h) (Or.inl ⟨by rfl, ?_⟩) ?_
      rotate_left
      · intro w; go_simp; try with_reducible rfl
      simp only [Act.put]
      refine wpAny_ready (rs := [13]) (by kernel_rfl) (by simp) ?_
      refine AllReady.cons rfl (fun K hK => ?_) ?_
      · go_simp
        refine hK _ _ ?_; clear hK K
        refine wpAny_take (i := 14) (v := ?_) rfl (by kernel_rfl) (by kernel_rfl) (by kernel_rfl) (fun _ _ _ h => h) (Or.inl ⟨by rfl, ?_⟩) ?_
        rotate_left
        · intro w; go_simp; try with_reducible rfl
        simp only [Act.put, List.setIfInBounds_toArray]
        refine wpAny_take (i := 15) (v := ?_) rfl (by kernel_rfl) (by kernel_rfl) (by kernel_rfl) (fun _ _ _ h => h) (Or.inl ⟨by rfl, ?_⟩) ?_
        rotate_left
        · intro w; go_simp; try with_reducible rfl
        simp only [Act.put]
        refine wpAny_take (i := 16) (v := undef) rfl (by kernel_rfl) (by kernel_rfl) (by kernel_rfl) (fun _ _ _ h => h) (Or.inr ⟨by rfl, rfl⟩) ?_
        simp only [Act.put]
        refine wpAny_take (i := 17) (v := undef) rfl (by kernel_rfl) (by kernel_rfl) (by kernel_rfl) (fun _ _ _ h => h) (Or.inr ⟨by rfl, rfl⟩) ?_
        simp only [Act.put]
        refine wpAny_take (i := 18) (v := undef) rfl (by kernel_rfl) (by kernel_rfl) (by kernel_rfl) (fun _ _ _ h => h) (Or.inr ⟨by rfl, rfl⟩) ?_
        simp only [Act.put]
        refine wpAny_take (i := 19) (v := undef) rfl (by kernel_rfl) (by kernel_rfl) (by kernel_rfl) (fun _ _ _ h => h) (Or.inr ⟨by rfl, rfl⟩) ?_
        simp only [Act.put]
        refine wpAny_take (i := 20) (v := ?_) rfl (by kernel_rfl) (by kernel_rfl) (by kernel_rfl) (fun _ _ _ h => h) (Or.inl ⟨by rfl, ?_⟩) ?_
        rotate_left
        · intro w; go_simp; try with_reducible rfl
        simp only [Act.put]
        refine wpAny_take (i := 21) (v := ?_) rfl (by kernel_rfl) (by kernel_rfl) (by kernel_rfl) (fun _ _ _ h => h) (Or.inl ⟨by rfl, ?_⟩) ?_
        rotate_left
        · intro w; go_simp; try with_reducible rfl
        simp only [Act.put]
        refine wpAny_take (i := 23) (v := ?_) rfl (by kernel_rfl) (by kernel_rfl) (by kernel_rfl) (fun _ _ _ h => h) (Or.inl ⟨by rfl, ?_⟩) ?_
        rotate_left
        · intro w; go_simp; try with_reducible rfl
        simp only [Act.put]
        refine wpAny_ready (rs := [24]) (by kernel_rfl) (by simp) ?_
        refine AllReady.cons rfl (fun K hK => ?_) ?_
        · go_simp
          refine hK _ _ ?_; clear hK K
          refine wpAny_ready (rs := [25]) (by kernel_rfl) (by simp) ?_
          refine AllReady.cons rfl (fun K hK => ?_) ?_
          · (refine step_append_lies _ (by rfl) (.tmp 13) (.tmp 37) 53 (by rfl) base 56 i0 _ 3 32 Tryz.underlying53 hi0 hz0 hz1 hz2 rfl (by omega) (.slice A n c) n (placesV l) (by rfl) ((Fr.alloc (fun _ => False) w.drew _).own HO.out (fun _ _ => id)) ⟨w.heap.size, 0, none⟩ 1 1 [.int .i64 k, .bool true, .string ⟨sh.toArray⟩] (by rfl) (by rfl) (World.news_of_block (heap_alloc_new w.drew _)) (one3 _ _ _ rfl rfl rfl) (by omega) (by simp only [maxLen]; omega) (by omega) (Nat.le_trans HBS.out (Nat.le_of_lt (by simp))) _ rfl ?_; intro g3 cap3 w3 hown3 hgrow3 hat3 hlt3; have hfr3 := add_fr hgrow3; have hbb3 := hfr3.blk HB.out HNE.out; have hcS : w3.cell? ⟨outb, 0, none⟩ = some (.slice A n c) := (cell_of_row w3 outb 0 _ _ _ hbb3).trans rfl; have hfS := blk_frozen hbb3 0)
            refine hK _ _ ?_; clear hK K
            refine wpAny_ready (rs := [26]) (by kernel_rfl) (by simp) ?_
            refine AllReady.cons rfl (fun K hK => ?_) ?_
            · go_simp
              refine hK _ _ ?_; clear hK K
              refine wpAny_done (by kernel_rfl) (bodyPost_end (results_none rfl _ _ _) rfl (add_end HN.out HBS.out hown3 hgrow3 hat3 hbb3 rfl)) _
            exact AllReady.nil
          exact AllReady.nil
        exact AllReady.nil
      exact AllReady.nil
    exact AllReady.nil
  refine AllReady.cons rfl (fun K hK => ?_) ?_
  · go_simp
    refine hK _ _ ?_; clear hK K
    refine wpAny_take (i := 4) (v := ?_) rfl (by kernel_rfl) (by kernel_rfl) (by kernel_rfl) (fun _ _ _ h => h) (Or.inl ⟨by rfl, ?_⟩) ?_
    rotate_left
    · intro w; go_simp; try with_reducible rfl
    simp only [Act.put, List.setIfInBounds_toArray]
    refine wpAny_take (i := 5) (v := ?_) rfl (by kernel_rfl) (by kernel_rfl) (by kernel_rfl) (fun _ _ _ h => h) (Or.inl ⟨by rfl, ?_⟩) ?_
    rotate_left
    · intro w; go_simp; try with_reducible rfl
    simp only [Act.put]
    refine wpAny_take (i := 6) (v := undef) rfl (by kernel_rfl) (by kernel_rfl) (by kernel_rfl) (fun _ _ _ h => h) (Or.inr ⟨by rfl, rfl⟩) ?_
    simp only [Act.put]
    refine wpAny_take (i := 7) (v := undef) rfl (by kernel_rfl) (by kernel_rfl) (by kernel_rfl) (fun _ _ _ h => h) (Or.inr ⟨by rfl, rfl⟩) ?_
    simp only [Act.put]
    refine wpAny_take (i := 8) (v := undef) rfl (by kernel_rfl) (by kernel_rfl) (by kernel_rfl) (fun _ _ _ h => h) (Or.inr ⟨by rfl, rfl⟩) ?_
    simp only [Act.put]
    refine wpAny_take (i := 9) (v := undef) rfl (by kernel_rfl) (by kernel_rfl) (by kernel_rfl) (fun _ _ _ h => h) (Or.inr ⟨by rfl, rfl⟩) ?_
    simp only [Act.put]
    refine wpAny_take (i := 10) (v := ?_) rfl (by kernel_rfl) (by kernel_rfl) (by kernel_rfl) (fun _ _ _ h => h) (Or.inl ⟨by rfl, ?_⟩) ?_
    rotate_left
    · intro w; go_simp; try with_reducible rfl
    simp only [Act.put]
    refine wpAny_take (i := 11) (v := ?_) rfl (by kernel_rfl) (by kernel_rfl) (by kernel_rfl) (fun _ _ _ h => h) (Or.inl ⟨by rfl, ?_⟩) ?_
    rotate_left
    · intro w; go_simp; try with_reducible rfl
    simp only [Act.put]
    refine wpAny_take (i := 12) (v := ?_) rfl (by kernel_rfl) (by kernel_rfl) (by kernel_rfl) (fun _ _ _ h => h) (Or.inl ⟨by rfl, ?_⟩) ?_
    rotate_left
    · intro w; go_simp; try with_reducible rfl
    simp only [Act.put]
    refine wpAny_ready (rs := [0, 13]) (by kernel_rfl) (by simp) ?_
    refine AllReady.cons rfl (fun K hK => ?_) ?_
    · go_simp
      refine hK _ _ ?_; clear hK K
      refine wpAny_ready (rs := [13]) (by kernel_rfl) (by simp) ?_
      refine AllReady.cons rfl (fun K hK => ?_) ?_
      · go_simp
        refine hK _ _ ?_; clear hK K
        refine wpAny_take (i := 14) (v := ?_) rfl (by kernel_rfl) (by kernel_rfl) (by kernel_rfl) (fun _ _ _ h => h) (Or.inl ⟨by rfl, ?_⟩) ?_
        rotate_left
        · intro w; go_simp; try with_reducible rfl
        simp only [Act.put, List.setIfInBounds_toArray]
        refine wpAny_take (i := 15) (v := ?_) rfl (by kernel_rfl) (by kernel_rfl) (by kernel_rfl) (fun _ _ _ h => h) (Or.inl ⟨by rfl, ?_⟩) ?_
        rotate_left
        · intro w; go_simp; try with_reducible rfl
        simp only [Act.put]
        refine wpAny_take (i := 16) (v := undef) rfl (by kernel_rfl) (by kernel_rfl) (by kernel_rfl) (fun _ _ _ h => h) (Or.inr ⟨by rfl, rfl⟩) ?_
        simp only [Act.put]
        refine wpAny_take (i := 17) (v := undef) rfl (by kernel_rfl) (by kernel_rfl) (by kernel_rfl) (fun _ _ _ h => h) (Or.inr ⟨by rfl, rfl⟩) ?_
        simp only [Act.put]
        refine wpAny_take (i := 18) (v := undef) rfl (by kernel_rfl) (by kernel_rfl) (by kernel_rfl) (fun _ _ _ h => h) (Or.inr ⟨by rfl, rfl⟩) ?_
        simp only [Act.put]
        refine wpAny_take (i := 19) (v := undef) rfl (by kernel_rfl) (by kernel_rfl) (by kernel_rfl) (fun _ _ _ h => h) (Or.inr ⟨by rfl, rfl⟩) ?_
        simp only [Act.put]
        refine wpAny_take (i := 20) (v := ?_) rfl (by kernel_rfl) (by kernel_rfl) (by kernel_rfl) (fun _ _ _ h => h) (Or.inl ⟨by rfl, ?_⟩) ?_
        rotate_left
        · intro w; go_simp; try with_reducible rfl
        simp only [Act.put]
        refine wpAny_take (i := 21) (v := ?_) rfl (by kernel_rfl) (by kernel_rfl) (by kernel_rfl) (fun _ _ _ h => h) (Or.inl ⟨by rfl, ?_⟩) ?_
        rotate_left
        · intro w; go_simp; try with_reducible rfl
        simp only [Act.put]
        refine wpAny_take (i := 23) (v := ?_) rfl (by kernel_rfl) (by kernel_rfl) (by kernel_rfl) (fun _ _ _ h => h) (Or.inl ⟨by rfl, ?_⟩) ?_
        rotate_left
        · intro w; go_simp; try with_reducible rfl
        simp only [Act.put]
        refine wpAny_ready (rs := [24]) (by kernel_rfl) (by simp) ?_
        refine AllReady.cons rfl (fun K hK => ?_) ?_
        · go_simp
          refine hK _ _ ?_; clear hK K
          refine wpAny_ready (rs := [25]) (by kernel_rfl) (by simp) ?_
          refine AllReady.cons rfl (fun K hK => ?_) ?_
          · (refine step_append_lies _ (by rfl) (.tmp 13) (.tmp 37) 53 (by rfl) base 56 i0 _ 3 32 Tryz.underlying53 hi0 hz0 hz1 hz2 rfl (by omega) (.slice A n c) n (placesV l) (by rfl) ((Fr.alloc (fun _ => False) w.drew _).own HO.out (fun _ _ => id)) ⟨w.heap.size, 0, none⟩ 1 1 [.int .i64 k, .bool true, .string ⟨sh.toArray⟩] (by rfl) (by rfl) (World.news_of_block (heap_alloc_new w.drew _)) (one3 _ _ _ rfl rfl rfl) (by omega) (by simp only [maxLen]; omega) (by omega) (Nat.le_trans HBS.out (Nat.le_of_lt (by simp))) _ rfl ?_; intro g3 cap3 w3 hown3 hgrow3 hat3 hlt3; have hfr3 := add_fr hgrow3; have hbb3 := hfr3.blk HB.out HNE.out; have hcS : w3.cell? ⟨outb, 0, none⟩ = some (.slice A n c) := (cell_of_row w3 outb 0 _ _ _ hbb3).trans rfl; have hfS := blk_frozen hbb3 0)
            refine hK _ _ ?_; clear hK K
            refine wpAny_ready (rs := [26]) (by kernel_rfl) (by simp) ?_
            refine AllReady.cons rfl (fun K hK => ?_) ?_
            · go_simp
              refine hK _ _ ?_; clear hK K
              refine wpAny_done (by kernel_rfl) (bodyPost_end (results_none rfl _ _ _) rfl (add_end HN.out HBS.out hown3 hgrow3 hat3 hbb3 rfl)) _
            exact AllReady.nil
          exact AllReady.nil
        exact AllReady.nil
      exact AllReady.nil
    refine AllReady.cons rfl (fun K hK => ?_) ?_
    · go_simp
      refine hK _ _ ?_; clear hK K
      refine wpAny_take (i := 14) (v := ?_) rfl (by kernel_rfl) (by kernel_rfl) (by kernel_rfl) (fun _ _ _ h => h) (Or.inl ⟨by rfl, ?_⟩) ?_
      rotate_left
      · intro w; go_simp; try with_reducible rfl
      simp only [Act.put, List.setIfInBounds_toArray]
      refine wpAny_take (i := 15) (v := ?_) rfl (by kernel_rfl) (by kernel_rfl) (by kernel_rfl) (fun _ _ _ h => h) (Or.inl ⟨by rfl, ?_⟩) ?_
      rotate_left
      · intro w; go_simp; try with_reducible rfl
      simp only [Act.put]
      refine wpAny_take (i := 16) (v := undef) rfl (by kernel_rfl) (by kernel_rfl) (by kernel_rfl) (fun _ _ _ h => h) (Or.inr ⟨by rfl, rfl⟩) ?_
      simp only [Act.put]
      refine wpAny_take (i := 17) (v := undef) rfl (by kernel_rfl) (by kernel_rfl) (by kernel_rfl) (fun _ _ _ h => h) (Or.inr ⟨by rfl, rfl⟩) ?_
      simp only [Act.put]
      refine wpAny_take (i := 18) (v := undef) rfl (by kernel_rfl) (by kernel_rfl) (by kernel_rfl) (fun _ _ _ h => h) (Or.inr ⟨by rfl, rfl⟩) ?_
      simp only [Act.put]
      refine wpAny_take (i := 19) (v := undef) rfl (by kernel_rfl) (by kernel_rfl) (by kernel_rfl) (fun _ _ _ h => h) (Or.inr ⟨by rfl, rfl⟩) ?_
      simp only [Act.put]
      refine wpAny_take (i := 20) (v := ?_) rfl (by kernel_rfl) (by kernel_rfl) (by kernel_rfl) (fun _ _ _ h => h) (Or.inl ⟨by rfl, ?_⟩) ?_
      rotate_left
      · intro w; go_simp; try with_reducible rfl
      simp only [Act.put]
      refine wpAny_take (i := 21) (v := ?_) rfl (by kernel_rfl) (by kernel_rfl) (by kernel_rfl) (fun _ _ _ h => h) (Or.inl ⟨by rfl, ?_⟩) ?_
      rotate_left
      · intro w; go_simp; try with_reducible rfl
      simp only [Act.put]
      refine wpAny_take (i := 23) (v := ?_) rfl (by kernel_rfl) (by kernel_rfl) (by kernel_rfl) (fun _ _ _ h => h) (Or.inl ⟨by rfl, ?_⟩) ?_
      rotate_left
      · intro w; go_simp; try with_reducible rfl
      simp only [Act.put]
      refine wpAny_ready (rs := [0, 24]) (by kernel_rfl) (by simp) ?_
      refine AllReady.cons rfl (fun K hK => ?_) ?_
      · go_simp
        refine hK _ _ ?_; clear hK K
        refine wpAny_ready (rs := [24]) (by kernel_rfl) (by simp) ?_
        refine AllReady.cons rfl (fun K hK => ?_) ?_
        · go_simp
          refine hK _ _ ?_; clear hK K
          refine wpAny_ready (rs := [25]) (by kernel_rfl) (by simp) ?_
          refine AllReady.cons rfl (fun K hK => ?_) ?_
          · (refine step_append_lies _ (by rfl) (.tmp 13) (.tmp 37) 53 (by rfl) base 56 i0 _ 3 32 Tryz.underlying53 hi0 hz0 hz1 hz2 rfl (by omega) (.slice A n c) n (placesV l) (by rfl) ((Fr.alloc (fun _ => False) w.drew _).own HO.out (fun _ _ => id)) ⟨w.heap.size, 0, none⟩ 1 1 [.int .i64 k, .bool true, .string ⟨sh.toArray⟩] (by rfl) (by rfl) (World.news_of_block (heap_alloc_new w.drew _)) (one3 _ _ _ rfl rfl rfl) (by omega) (by simp only [maxLen]; omega) (by omega) (Nat.le_trans HBS.out (Nat.le_of_lt (by simp))) _ rfl ?_; intro g3 cap3 w3 hown3 hgrow3 hat3 hlt3; have hfr3 := add_fr hgrow3; have hbb3 := hfr3.blk HB.out HNE.out; have hcS : w3.cell? ⟨outb, 0, none⟩ = some (.slice A n c) := (cell_of_row w3 outb 0 _ _ _ hbb3).trans rfl; have hfS := blk_frozen hbb3 0)
            refine hK _ _ ?_; clear hK K
            refine wpAny_ready (rs := [26]) (by kernel_rfl) (by simp) ?_
            refine AllReady.cons rfl (fun K hK => ?_) ?_
            · go_simp
              refine hK _ _ ?_; clear hK K
              refine wpAny_done (by kernel_rfl) (bodyPost_end (results_none rfl _ _ _) rfl (add_end HN.out HBS.out hown3 hgrow3 hat3 hbb3 rfl)) _
            exact AllReady.nil
          exact AllReady.nil
        exact AllReady.nil
      refine AllReady.cons rfl (fun K hK => ?_) ?_
      · go_simp
        refine hK _ _ ?_; clear hK K
        refine wpAny_ready (rs := [0]) (by kernel_rfl) (by simp) ?_
        refine AllReady.cons rfl (fun K hK => ?_) ?_
        · go_simp
          refine hK _ _ ?_; clear hK K
          refine wpAny_ready (rs := [25]) (by kernel_rfl) (by simp) ?_
          refine AllReady.cons rfl (fun K hK => ?_) ?_
          · (refine step_append_lies _ (by rfl) (.tmp 13) (.tmp 37) 53 (by rfl) base 56 i0 _ 3 32 Tryz.underlying53 hi0 hz0 hz1 hz2 rfl (by omega) (.slice A n c) n (placesV l) (by rfl) ((Fr.alloc (fun _ => False) w.drew _).own HO.out (fun _ _ => id)) ⟨w.heap.size, 0, none⟩ 1 1 [.int .i64 k, .bool true, .string ⟨sh.toArray⟩] (by rfl) (by rfl) (World.news_of_block (heap_alloc_new w.drew _)) (one3 _ _ _ rfl rfl rfl) (by omega) (by simp only [maxLen]; omega) (by omega) (Nat.le_trans HBS.out (Nat.le_of_lt (by simp))) _ rfl ?_; intro g3 cap3 w3 hown3 hgrow3 hat3 hlt3; have hfr3 := add_fr hgrow3; have hbb3 := hfr3.blk HB.out HNE.out; have hcS : w3.cell? ⟨outb, 0, none⟩ = some (.slice A n c) := (cell_of_row w3 outb 0 _ _ _ hbb3).trans rfl; have hfS := blk_frozen hbb3 0)
            refine hK _ _ ?_; clear hK K
            refine wpAny_ready (rs := [26]) (by kernel_rfl) (by simp) ?_
            refine AllReady.cons rfl (fun K hK => ?_) ?_
            · go_simp
              refine hK _ _ ?_; clear hK K
              refine wpAny_done (by kernel_rfl) (bodyPost_end (results_none rfl _ _ _) rfl (add_end HN.out HBS.out hown3 hgrow3 hat3 hbb3 rfl)) _
            exact AllReady.nil
          exact AllReady.nil
        exact AllReady.nil
      exact AllReady.nil
    exact AllReady.nil
  exact AllReady.nil
end
end Go.Proofs.YtfmnninijakknaaGreatDoor.searchPieces
