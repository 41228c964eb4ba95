/- SearchLeft, walked: search.places and its closures. -/
import Derived.Test.YtmpkgddioiaonaaGreatDoorFC
import Derived.Test.YtmpkgddioiaonaaGreatDoorFP
import Derived.OwnWalk
import Derived.Deep.RegionLaw
import Derived.Lib.OthersKept
import Derived.WalkMore
import Derived.Test.YtmpkgddioiaonaaGreatDoorFI
import Derived.Deep.DeepCutAuto
import Derived.Laws.EntriesVeiled
namespace Go.Proofs.YtmpkgddioiaonaaGreatDoor.searchLeft
section
open Go.Shelf Go.RowKit Go.Lib Go.Proofs.YtmpkgddioiaonaaGreatDoor.Am
/-! ### a beginning cut off -/
theorem HasPrefix_short (s p : ByteArray) (w : World) (h : s.size < p.size) : Calls Tryz.prog 54 #[.string s, .string p] w fun e w' => e = .returned (.bool false) ∧ w' = w := by
 have hd : decide ((p.size : Int) ≤ s.size) = false := by rw [decide_eq_false_iff_not]; omega
 go_enter Tryz.func54, Tryz.ntmps54
 go_wp2
 go_ret
 exact ⟨rfl, rfl⟩
theorem HasPrefix_long (s p : ByteArray) (b : Bool) (w : World) (h : p.size ≤ s.size) (hb : ((s.extract 0 p.size).toList == p.toList) = b) : Calls Tryz.prog 54 #[.string s, .string p] w fun e w' => e = .returned (.bool b) ∧ w' = w := by
 have hd : (p.size : Int) ≤ s.size := by omega
 have h0 : (0 : Int) ≤ p.size := by omega
 have HB := Lib.hid hb; clear hb
 go_enter Tryz.func54, Tryz.ntmps54
 go_wp2
 go_ret
 exact ⟨by rw [← HB.out]; rfl, rfl⟩
theorem HasPrefix_l (a b : List UInt8) (q : Bool) (w : World) (hq : decide (a.take b.length = b) = q) : Calls Tryz.prog 54 #[.string ⟨a.toArray⟩, .string ⟨b.toArray⟩] w fun e w' => e = .returned (.bool q) ∧ w' = w := by
 have s1 : (⟨a.toArray⟩ : ByteArray).size = a.length := size_mk a _ rfl
 have s2 : (⟨b.toArray⟩ : ByteArray).size = b.length := size_mk b _ rfl
 rcases Nat.lt_or_ge a.length b.length with c | c
 ·have : q = false := by
   rw [← hq, decide_eq_false_iff_not]
   intro h
   have := congrArg List.length h
   rw [List.length_take] at this
   omega
  rw [this]
  exact HasPrefix_short _ _ w (by rw [s1, s2]; exact c)
 ·refine HasPrefix_long _ _ q w (by rw [s1, s2]; exact c) ?_
  rw [ByteArray.extract_mk, ByteArray.toList_mk, ByteArray.toList_mk, s2, ← hq]
  simp only [List.drop_zero, Nat.sub_zero]
  rw [Bool.eq_iff_iff, beq_iff_eq, decide_eq_true_iff]
theorem Cut32_no (a b : List UInt8) (w : World) (h : ¬ a.take b.length = b) : Calls Tryz.prog 30 #[.string ⟨a.toArray⟩, .string ⟨b.toArray⟩] w fun e w' => e = .returned (.tuple #[.string ⟨a.toArray⟩, .bool false]) ∧ w' = w := by
 go_enter Tryz.func30, Tryz.ntmps30
 go_wp2_with (go_at_call 54; refine (HasPrefix_l a b false _ (decide_eq_false h)).mono ?_; rintro e w1 ⟨rfl, rfl⟩)
 go_ret2
 exact ⟨rfl, rfl⟩
theorem Cut32_yes (a b : List UInt8) (w : World) (h : a.take b.length = b) : Calls Tryz.prog 30 #[.string ⟨a.toArray⟩, .string ⟨b.toArray⟩] w fun e w' => e = .returned (.tuple #[.string ⟨(a.drop b.length).toArray⟩, .bool true]) ∧ w' = w := by
 have s1 : (⟨a.toArray⟩ : ByteArray).size = a.length := size_mk a _ rfl
 have s2 : (⟨b.toArray⟩ : ByteArray).size = b.length := size_mk b _ rfl
 have hle : b.length ≤ a.length := by
  have := congrArg List.length h
  rw [List.length_take] at this
  omega
 have hx := pc_ext a b.length ⟨a.toArray⟩ rfl
 obtain ⟨x, hxx⟩ : ∃ x : ByteArray, ⟨(a.drop b.length).toArray⟩ = x := ⟨_, rfl⟩
 obtain ⟨s, hs⟩ : ∃ s : ByteArray, ⟨a.toArray⟩ = s := ⟨_, rfl⟩
 obtain ⟨p, hp⟩ : ∃ p : ByteArray, ⟨b.toArray⟩ = p := ⟨_, rfl⟩
 have hcall := HasPrefix_l a b true w (decide_eq_true h)
 rw [hxx]
 rw [hs, hxx, ← s2, hp] at hx
 rw [hs] at s1
 rw [hp] at s2
 rw [hs, hp] at hcall ⊢
 have h0 : (0 : Int) ≤ p.size := by omega
 have h1 : (p.size : Int) ≤ s.size := by omega
 have HH := Lib.hid h; have H1 := Lib.hid s1; have H2 := Lib.hid s2; have H3 := Lib.hid hle; have H4 := Lib.hid hcall
 clear h s1 s2 hle hcall hxx hs hp
 go_enter Tryz.func30, Tryz.ntmps30
 go_wp2_with (go_at_call 54; refine H4.out.mono ?_; rintro e w1 ⟨rfl, rfl⟩)
 go_ret2
 exact ⟨rfl, rfl⟩
theorem Cut_no (a b : List UInt8) (w : World) (h : Left.cut a b = none) : Calls Tryz.prog 15 #[.string ⟨a.toArray⟩, .string ⟨b.toArray⟩] w fun e w' => e = .returned (.tuple #[.string ⟨a.toArray⟩, .bool false]) ∧ w' = w := by
 have h1 : ¬ a.take b.length = b := by
  intro c
  unfold Left.cut at h
  rw [if_pos c] at h
  cases h
 have H1 := Lib.hid h1; clear h1 h
 go_enter Tryz.func15, Tryz.ntmps15
 go_wp2_with (go_at_call 30; refine (Cut32_no a b _ H1.out).mono ?_; rintro e w1 ⟨rfl, rfl⟩)
 go_ret2
 exact ⟨rfl, rfl⟩
theorem Cut_yes (a b n : List UInt8) (w : World) (h : Left.cut a b = some n) : Calls Tryz.prog 15 #[.string ⟨a.toArray⟩, .string ⟨b.toArray⟩] w fun e w' => e = .returned (.tuple #[.string ⟨n.toArray⟩, .bool true]) ∧ w' = w := by
 have h1 : a.take b.length = b ∧ a.drop b.length = n := by
  unfold Left.cut at h
  split at h
  ·rename_i c
   exact ⟨c, by injection h⟩
  ·cases h
 have hc := Cut32_yes a b w h1.1
 rw [h1.2] at hc
 have H1 := Lib.hid hc; clear h1 h hc
 go_enter Tryz.func15, Tryz.ntmps15
 go_wp2_with (go_at_call 30; refine H1.out.mono ?_; rintro e w1 ⟨rfl, rfl⟩)
 go_ret2
 exact ⟨rfl, rfl⟩
end
section
open Go.Shelf Go.RowKit Go.Lib Go.Proofs.YtmpkgddioiaonaaGreatDoor.Am
def placeV (p : Left.Pl) : List Value := [.int .i64 p.1, .bool p.2.1, .string ⟨p.2.2.toArray⟩]
def placesV (l : List Left.Pl) : List Value := l.flatMap placeV
theorem placesV_len (l : List Left.Pl) : (placesV l).length = l.length * 3 := by
 unfold placesV
 induction l with
 | nil => rfl
 | cons p l ih => rw [List.flatMap_cons, List.length_append, ih]; simp [placeV]; omega
theorem placesV_app (l : List Left.Pl) (p : Left.Pl) : placesV (l ++ [p]) = placesV l ++ placeV p := by simp [placesV]
theorem place_info : (Tryz.prog.info? 45).map (fun i => (i.zero, i.size, i.bytes)) = some (some (.agg #[.int .i64 0, .bool false, .string ⟨#[]⟩]), 3, 32) := by kernel_rfl
def matchV (p : Nat × Nat) : List Value := [.int .i64 p.1, .int .i64 p.2]
def matchesV (l : List (Nat × Nat)) : List Value := l.flatMap matchV
theorem matchesV_app (l : List (Nat × Nat)) (p : Nat × Nat) : matchesV (l ++ [p]) = matchesV l ++ matchV p := by simp [matchesV]
theorem match_info : (Tryz.prog.info? 29).map (fun i => (i.zero, i.size, i.bytes)) = some (some (.agg #[.int .i64 0, .int .i64 0]), 2, 16) := by kernel_rfl
theorem matchesV_get : ∀ (l : List (Nat × Nat)) (k : Nat), k < l.length → (matchesV l)[k * 2]? = some (.int .i64 (l.getD k Left.m0).1) ∧ (matchesV l)[k * 2 + 1]? = some (.int .i64 (l.getD k Left.m0).2)
 | [], _, h => absurd h (Nat.not_lt_zero _)
 | _ :: _, 0, _ => ⟨rfl, rfl⟩
 | _ :: l, k + 1, h => by
   have := matchesV_get l k (Nat.lt_of_succ_lt_succ h)
   rw [show (k + 1) * 2 = k * 2 + 1 + 1 by omega]
   exact this
/-- a row of matches, in memory -/
structure MatR (w : World) (A : Option Addr) (n : Nat) (l : List (Nat × Nat)) : Prop where
 len : l.length = n
 small : n ≤ 100000
 at_ : 0 < n → ∃ g, A = some ⟨g, 0, none⟩ ∧ g < w.heap.size ∧ ∀ j, j < n → w.cell? ⟨g, j * 2, none⟩ = some (.int .i64 (l.getD j Left.m0).1) ∧ w.cell? ⟨g, j * 2 + 1, none⟩ = some (.int .i64 (l.getD j Left.m0).2)
theorem MatR.below {w w' : World} {A : Option Addr} {n : Nat} {l : List (Nat × Nat)} (h : MatR w A n l) (hb : Below w.heap.size w w') : MatR w' A n l :=
 ⟨h.len, h.small, fun h0 => by
  obtain ⟨g, e, hg, hc⟩ := h.at_ h0
  exact ⟨g, e, Nat.lt_of_lt_of_le hg hb.size, fun j hj => ⟨by rw [hb.cell (p := ⟨g, j * 2, none⟩) hg]; exact (hc j hj).1, by rw [hb.cell (p := ⟨g, j * 2 + 1, none⟩) hg]; exact (hc j hj).2⟩⟩⟩
theorem matR_own {w : World} {base n c : Nat} {A : Option Addr} {l : List (Nat × Nat)} (hn : l.length = n) (h : w.ownsRow base 29 2 (.slice A n c) n (matchesV l)) (hs : n ≤ 100000) : MatR w A n l := by
 refine ⟨hn, hs, fun h0 => ?_⟩
 obtain ⟨g, rfl⟩ := own_some h h0
 refine ⟨g, rfl, (own_lt h (g := g) rfl).2.1, fun j hj => ?_⟩
 obtain ⟨h1, h2⟩ := matchesV_get l j (by omega)
 have c1 := World.ownsRow.cells (g := g) h rfl _ _ h1
 have c2 := World.ownsRow.cells (g := g) h rfl _ _ h2
 rw [add_none, Nat.zero_add] at c1 c2
 exact ⟨c1, c2⟩
theorem one3 (a b c : Value) (ha : a.oneCell' = true) (hb : b.oneCell' = true) (hc : c.oneCell' = true) : ∀ u ∈ [a, b, c], u.oneCell' = true := by
 intro u hu
 simp only [List.mem_cons, List.not_mem_nil, or_false] at hu
 rcases hu with rfl | rfl | rfl <;> assumption
theorem one2 (a b : Value) (ha : a.oneCell' = true) (hb : b.oneCell' = true) : ∀ u ∈ [a, b], u.oneCell' = true := by
 intro u hu
 simp only [List.mem_cons, List.not_mem_nil, or_false] at hu
 rcases hu with rfl | rfl <;> assumption
theorem add_fr {w w3 : World} {o : Obj} {r : Option Nat} (h : (w.drew.alloc o).grownBy w3 r) : Fr (fun k => r = some k) w w3 :=
 ((Fr.drew _ w).trans (Fr.alloc _ w.drew o)).trans (Fr.grown h (fun _ h _ => h))
theorem blk_ty {w : World} {g g' : Nat} {t t' : TypeId} {cs cs' : Array Value} {fr fr' : Nat × Nat} (h : w.heap[g]? = some (.cells cs t fr)) (h' : w.heap[g']? = some (.cells cs' t' fr')) (hne : t ≠ t') : g ≠ g' := by
 rintro rfl
 rw [h] at h'
 injection h' with h'
 injection h' with _ ht
 exact hne ht
end
section
open Go.Shelf Go.RowKit Go.Lib Go.Proofs.YtmpkgddioiaonaaGreatDoor.Am
set_option maxRecDepth 100000 in
theorem in_ok (zs : List Int) (x : Int) (A : Option Addr) (n c : Nat) (W : World) (h : IntsR W A n zs) :
 Calls Tryz.prog 26 #[.slice A n c, .int .i64 x] W fun e w' => e = .returned (.bool (bsF zs x)) ∧ Below W.heap.size W w' := by
 have H := Lib.hid (Bsx_ok zs x A n c W h); clear h
 obtain ⟨z, hz⟩ : ∃ z, bsF zs x = z := ⟨_, rfl⟩
 unfold BsxPost at H
 rw [hz] at H ⊢
 clear hz
 go_enter Tryz.func26, Tryz.ntmps26
 go_wp2_with (go_at_call 27; refine H.out.mono ?_; rintro e w1 ⟨m, rfl, hb⟩; have HB := Lib.hid hb; clear hb)
 go_ret
 exact ⟨rfl, HB.out⟩
end
section
open Go.Shelf Go.RowKit Go.Lib Go.Proofs.YtmpkgddioiaonaaGreatDoor.Am
/-- may a match begin or end there? -/
def mayF (le wo : Bool) (gb wb : List Int) (at_ : Int) : Bool := (!le || bsF gb at_) && (!wo || bsF wb at_)
/-- what stood when the loop over a text's runes began: the box of the way of looking, the closure, the bounds -/
structure PB (W0 : World) (ob inb lb wb outb : Nat) (fo le wo : Bool) (lA : Option Addr) (ln lk : Nat) (gs : List Int) (wA : Option Addr) (wn wk : Nat) (ws : List Int) : Prop where
 o : W0.heap[ob]? = some (.cells #[.bool fo, .bool le, .bool wo] 23 (0, 0))
 i : W0.heap[inb]? = some (.cells #[.func (.func 26) #[] #[]] 65 (0, 0))
 l : W0.heap[lb]? = some (.cells #[.slice lA ln lk] 36 (0, 0))
 w : W0.heap[wb]? = some (.cells #[.slice wA wn wk] 36 (0, 0))
 lr : IntsR W0 lA ln gs
 wr : IntsR W0 wA wn ws
 lt : W0.heap.size = outb
/-- a later world: all below the list's box stands; the box -/
structure AS (W0 : World) (outb : Nat) (v : Value) (w : World) : Prop where
 bel : Below outb W0 w
 out : w.heap[outb]? = some (.cells #[v] 42 (0, 0))
theorem AS.go {W0 w w' : World} {outb : Nat} {v : Value} (h : AS W0 outb v w) (hb : Below w.heap.size w w') : AS W0 outb v w' :=
 ⟨h.bel.trans (hb.mono (Nat.le_of_lt (heap_lt h.out))), below_blk hb h.out⟩
theorem AS.drew {W0 w : World} {outb : Nat} {v : Value} (h : AS W0 outb v w) : AS W0 outb v w.drew := ⟨⟨h.bel.os, h.bel.tape, h.bel.output, h.bel.size, h.bel.block⟩, h.out⟩
theorem PB.ints {W0 w : World} {A : Option Addr} {n : Nat} {zs : List Int} {outb : Nat} (h : IntsR W0 A n zs) (he : W0.heap.size = outb) (hb : Below outb W0 w) : IntsR w A n zs :=
 ⟨h.len, h.small, fun h0 => by
  obtain ⟨g, o, e, hg, hc⟩ := h.at_ h0
  exact ⟨g, o, e, Nat.lt_of_lt_of_le hg hb.size, fun j hj => by rw [hb.cell (p := ⟨g, o + j, none⟩) (by rw [← he]; exact hg)]; exact hc j hj⟩⟩
def AddPost (W0 : World) (outb : Nat) (v : Value) (base : Nat) (l : List Left.Pl) (w : World) (e : Ending) (w' : World) : Prop :=
 (∃ r, e = .returned r) ∧ Fr (fun k => k = outb ∨ v.ownBlock = some k) w w' ∧ ∃ v', AS W0 outb v' w' ∧ w'.ownsRow base 45 3 v' l.length (placesV l) ∧ (v'.ownBlock = v.ownBlock ∨ ∃ g, v'.ownBlock = some g ∧ w.heap.size ≤ g)
/-- where the walk stands: the row of places too -/
structure AC (W0 w0 : World) (outb base n : Nat) (v : Value) (l : List Left.Pl) (w : World) : Prop where
 st : AS W0 outb v w
 own : w.ownsRow base 45 3 v n (placesV l)
 bel : Below w0.heap.size w0 w
section
variable {W0 w0 w w3 : World} {outb base n : Nat} {v : Value} {l : List Left.Pl}
theorem AC.go {w' : World} (h : AC W0 w0 outb base n v l w) (hb : Below w.heap.size w w') : AC W0 w0 outb base n v l w' := ⟨h.st.go hb, own_below hb h.own, h.bel.trans (hb.mono h.bel.size)⟩
theorem AC.alloc (h : AC W0 w0 outb base n v l w) (o : Obj) : AC W0 w0 outb base n v l (w.alloc o) := h.go ((Below.refl _ w).alloc (Nat.le_refl _) o)
theorem AC.drew (h : AC W0 w0 outb base n v l w) : AC W0 w0 outb base n v l w.drew := h.go ⟨rfl, rfl, rfl, Nat.le_refl _, fun _ _ => rfl⟩
theorem set_blk {g : Nat} {t : TypeId} {cs : Array Value} (h : w.heap[g]? = some (.cells cs t (0, 0))) (i : Nat) (u : Value) : (w.setCell ⟨g, i, none⟩ u).heap[g]? = some (.cells (cs.setIfInBounds i u) t (0, 0)) := by
 simp [World.setCell, Array.getElem?_modify, h]
theorem blk_frozen {g : Nat} {t : TypeId} {cs : Array Value} (h : w.heap[g]? = some (.cells cs t (0, 0))) (i : Nat) : w.frozen? ⟨g, i, none⟩ = false := by
 simp [World.frozen?, h]
/-- behind the append: the boxes stand -/
theorem AC.grown (h : AC W0 w0 outb base n v l w) (hg : w.grownBy w3 v.ownBlock) (hbase : outb < base) : AS W0 outb v w3 := by
 have hr : ∀ k, v.ownBlock = some k → base ≤ k := fun k hk => (own_lt h.own hk).1
 refine ⟨h.st.bel.grown hg (Nat.le_of_lt (heap_lt h.st.out)) fun k hk => Nat.le_trans (Nat.le_of_lt hbase) (hr k hk), ?_⟩
 rw [hg.block _ (heap_lt h.st.out) fun c => by have := hr outb c.symm; omega]
 exact h.st.out
theorem add_end {g3 cap3 : Nat} {p : Left.Pl} {r : Value} (hn : l.length = n) (hbase : outb < base) (h : AC W0 w0 outb base n v l w)
 (hown : w3.ownsRow base 45 3 (.slice (some ⟨g3, 0, none⟩) (n + 1) cap3) (n + 1) (placesV l ++ placeV p)) (hg : w.grownBy w3 v.ownBlock)
 (hat : v.ownBlock = some g3 ∨ g3 = w.heap.size) :
 AddPost W0 outb v base (l ++ [p]) w0 (.returned r) (w3.setCell ⟨outb, 0, none⟩ (.slice (some ⟨g3, 0, none⟩) (n + 1) cap3)) := by
 have has := h.grown hg hbase
 have hne : g3 ≠ outb := fun c => by have := (own_lt hown (g := g3) rfl).1; omega
 have hf : Fr (fun k => k = outb) w3 (w3.setCell ⟨outb, 0, none⟩ (.slice (some ⟨g3, 0, none⟩) (n + 1) cap3)) := Fr.set _ _ _ (fun _ => rfl)
 refine ⟨⟨r, rfl⟩, ((Fr.of_below h.bel (Nat.le_refl _)).trans ((Fr.grown hg (fun _ hk _ => hk)).mono (fun k _ hk => Or.inr hk))).trans (hf.mono (fun k _ hk => Or.inl hk)), _, ⟨has.bel.setCell (Nat.le_refl _) _, set_blk has.out 0 _⟩, ?_, ?_⟩
 ·rw [placesV_app, List.length_append, hn]
  exact hf.own hown (fun g hg => by cases hg; exact hne)
 ·rcases hat with c | c
  ·exact .inl c.symm
  ·refine .inr ⟨g3, rfl, ?_⟩
   rw [c]
   exact h.bel.size
end
set_option maxHeartbeats 20000000 in
set_option maxRecDepth 100000 in
theorem add_ok (W0 : World) (ob inb lb wb outb : Nat) (fo le wo : Bool) (lA : Option Addr) (ln lk : Nat) (gs : List Int) (wA : Option Addr) (wn wk : Nat) (ws : List Int)
 (hp : PB W0 ob inb lb wb outb fo le wo lA ln lk gs wA wn wk ws) (k : Nat) (sh sh2 : List UInt8) (l : List Left.Pl) (n base : Nat) (v : Value) (w : World) (ha : AS W0 outb v w)
 (hfo : fo = false → sh2 = sh) (hF : fo = true → ∀ w, AS W0 outb v w → Calls Tryz.prog 13 #[.string ⟨sh.toArray⟩] w fun e w' => e = .returned (.string ⟨sh2.toArray⟩) ∧ Below w.heap.size w w')
 (hown : w.ownsRow base 45 3 v n (placesV l)) (hn : l.length = n) (hsm : n ≤ 1000000) (hbase : outb < base) (hb2 : base ≤ w.heap.size) :
 Calls Tryz.prog 28 #[.int .i64 k, .string ⟨sh.toArray⟩, .pointer (some ⟨ob, 0, none⟩), .pointer (some ⟨outb, 0, none⟩), .pointer (some ⟨inb, 0, none⟩), .pointer (some ⟨lb, 0, none⟩), .pointer (some ⟨wb, 0, none⟩)] w (AddPost W0 outb v base (l ++ [(k, mayF le wo gs ws k, sh2)]) w) := by
 obtain ⟨A, c, rfl, _⟩ := own_slice3 hown
 have HP := Lib.hid hp
 have key : ∀ w', AS W0 outb (.slice A n c) w' → w'.cell? ⟨outb, 0, none⟩ = some (.slice A n c) ∧ w'.cell? ⟨ob, 0, none⟩ = some (.bool fo) ∧ w'.cell? ⟨ob, 1, none⟩ = some (.bool le) ∧ w'.cell? ⟨ob, 2, none⟩ = some (.bool wo) ∧ w'.cell? ⟨inb, 0, none⟩ = some (.func (.func 26) #[] #[]) ∧ w'.cell? ⟨lb, 0, none⟩ = some (.slice lA ln lk) ∧ w'.cell? ⟨wb, 0, none⟩ = some (.slice wA wn wk) := fun w' h => by
  have q : ∀ g o, W0.heap[g]? = some o → w'.heap[g]? = some o := fun g o hh => (h.bel.block g (by rw [← hp.lt]; exact heap_lt hh)).trans hh
  exact ⟨by rw [cell_of_row _ _ 0 _ _ _ h.out]; rfl, by rw [cell_of_row _ _ 0 _ _ _ (q _ _ hp.o)]; rfl, by rw [cell_of_row _ _ 1 _ _ _ (q _ _ hp.o)]; rfl, by rw [cell_of_row _ _ 2 _ _ _ (q _ _ hp.o)]; rfl, by rw [cell_of_row _ _ 0 _ _ _ (q _ _ hp.i)]; rfl, by rw [cell_of_row _ _ 0 _ _ _ (q _ _ hp.l)]; rfl, by rw [cell_of_row _ _ 0 _ _ _ (q _ _ hp.w)]; rfl⟩
 have KEY := Lib.hid key
 obtain ⟨y0, y1, y2, y3, y4, y5, y6⟩ := key w ha
 have H0 := Lib.hid (AC.mk (w0 := w) ha hown (Below.refl _ w))
 have HF := Lib.hid hF; have HN := Lib.hid hn; have HBS := Lib.hid hbase; have HB2 := Lib.hid hb2
 have HM := Lib.hid (show mayF le wo gs ws k = ((!le || bsF gs k) && (!wo || bsF ws k)) from rfl)
 obtain ⟨mv, hmv⟩ : ∃ mv, mayF le wo gs ws k = mv := ⟨_, rfl⟩
 rw [hmv] at HM ⊢
 clear hmv key hF hn hbase hb2 hown ha hp
 obtain ⟨i0, hi0, hz0, hz1, hz2⟩ := info_parts place_info
 go_enter Tryz.func28, Tryz.ntmps28
 go_upto_if 10 with (fail)
 go_cut [1] (fun t wx => t = .string ⟨sh2.toArray⟩ ∧ AC W0 w outb base n (.slice A n c) l wx)
 case first =>
  cases fo
  case false =>
   have HE := Lib.hid (hfo rfl)
   clear hfo
   go_wp2_with fail
   go_meet
   exact ⟨by rw [HE.out], H0.out⟩
  case true =>
   go_wp2_with (go_at_call 13; refine (HF.out rfl _ H0.out.st).mono ?_; rintro e w1 ⟨rfl, hb⟩; have H1 := Lib.hid (H0.out.go hb); clear hb)
   go_meet
   exact ⟨rfl, H1.out⟩
 case rest =>
  obtain ⟨rfl, hc⟩ := hcut
  have HC := Lib.hid hc.drew
  clear hc y0 y1 y2 y3 y4 y5 y6 H0 HF hfo
  obtain ⟨z, hz⟩ : ∃ z, bsF gs k = z := ⟨_, rfl⟩
  obtain ⟨z2, hz2⟩ : ∃ z, bsF ws k = z := ⟨_, rfl⟩
  rw [hz, hz2] at HM
  have HZ := Lib.hid hz; have HZ2 := Lib.hid hz2
  clear hz hz2
  have hcomb : (le = false ∧ wo = false ∧ True ∧ True) ∨ (le = false ∧ wo = true ∧ True) ∨ (le = true ∧ z = true ∧ wo = false ∧ True) ∨ (le = true ∧ z = true ∧ wo = true) ∨ (le = true ∧ z = false ∧ True ∧ True) := by
   cases le <;> cases wo <;> cases z <;> simp
  go_wp2_with fail
  rcases hcomb with ⟨rfl, rfl, u1, u3⟩ | ⟨rfl, rfl, u1⟩ | ⟨rfl, rfl, rfl, u3⟩ | ⟨rfl, rfl, rfl⟩ | ⟨rfl, rfl, u2, u3⟩
  all_goals
   have hm := HM.out
   simp at hm
   clear HM
   subst hm
   refine wp_region_G (AS W0 outb (.slice A n c)) 26 (by kernel_rfl) ?_
   (refine wpAnyG_take (i := 0) (v := ?_) rfl (by kernel_rfl) (by kernel_rfl) (by kernel_rfl) (by kernel_rfl) (fun _ _ _ h => h) HC.out.st (Or.inl ⟨by kernel_rfl, ?_⟩) ?_; rotate_left; (focus (intro w hw; obtain ⟨y0, y1, y2, y3, y4, y5, y6⟩ := KEY.out w hw; go_simp; try with_reducible rfl)))
   (try simp only [Act.put, List.getElem_toArray, List.getElem_cons_zero]); (try simp only [List.setIfInBounds_toArray]); (try simp only [List.set_cons_succ]); (try simp only [List.set_cons_zero])
   (refine wpAnyG_take (i := 1) (v := ?_) rfl (by kernel_rfl) (by kernel_rfl) (by kernel_rfl) (by kernel_rfl) (fun _ _ _ h => h) HC.out.st (Or.inl ⟨by kernel_rfl, ?_⟩) ?_; rotate_left; (focus (intro w hw; go_simp; try with_reducible rfl)))
   (try simp only [Act.put, List.getElem_toArray, List.getElem_cons_succ, List.getElem_cons_zero]); (try simp only [List.setIfInBounds_toArray]); (try simp only [List.set_cons_succ]); (try simp only [List.set_cons_zero])
   (refine wpAnyG_take (i := 2) (v := ?_) rfl (by kernel_rfl) (by kernel_rfl) (by kernel_rfl) (by kernel_rfl) (fun _ _ _ h => h) HC.out.st (Or.inl ⟨by kernel_rfl, ?_⟩) ?_; rotate_left; (focus (intro w hw; go_simp; try with_reducible rfl)))
   (try simp only [Act.put, List.getElem_toArray, List.getElem_cons_succ, List.getElem_cons_zero]); (try simp only [List.setIfInBounds_toArray]); (try simp only [List.set_cons_succ]); (try simp only [List.set_cons_zero])
   (refine wpAnyG_take (i := 3) (v := ?_) rfl (by kernel_rfl) (by kernel_rfl) (by kernel_rfl) (by kernel_rfl) (fun _ _ _ h => h) HC.out.st (Or.inl ⟨by kernel_rfl, ?_⟩) ?_; rotate_left; (focus (intro w hw; obtain ⟨y0, y1, y2, y3, y4, y5, y6⟩ := KEY.out w hw; go_simp; try with_reducible rfl)))
   (try simp only [Act.put, List.getElem_toArray, List.getElem_cons_succ, List.getElem_cons_zero]); (try simp only [List.setIfInBounds_toArray]); (try simp only [List.set_cons_succ]); (try simp only [List.set_cons_zero])
   (refine wpAnyG_take (i := 4) (v := ?_) rfl (by kernel_rfl) (by kernel_rfl) (by kernel_rfl) (by kernel_rfl) (fun _ _ _ h => h) HC.out.st (Or.inl ⟨by kernel_rfl, ?_⟩) ?_; rotate_left; (focus (intro w hw; go_simp; try with_reducible rfl)))
   (try simp only [Act.put, List.getElem_toArray, List.getElem_cons_succ, List.getElem_cons_zero]); (try simp only [List.setIfInBounds_toArray]); (try simp only [List.set_cons_succ]); (try simp only [List.set_cons_zero])
   (refine wpAnyG_take (i := 5) (v := ?_) rfl (by kernel_rfl) (by kernel_rfl) (by kernel_rfl) (by kernel_rfl) (fun _ _ _ h => h) HC.out.st (Or.inl ⟨by kernel_rfl, ?_⟩) ?_; rotate_left; (focus (intro w hw; go_simp; try with_reducible rfl)))
   (try simp only [Act.put, List.getElem_toArray, List.getElem_cons_succ, List.getElem_cons_zero]); (try simp only [List.setIfInBounds_toArray]); (try simp only [List.set_cons_succ]); (try simp only [List.set_cons_zero])
   (refine wpAnyG_take (i := 22) (v := ?_) rfl (by kernel_rfl) (by kernel_rfl) (by kernel_rfl) (by kernel_rfl) (fun _ _ _ h => h) HC.out.st (Or.inl ⟨by kernel_rfl, ?_⟩) ?_; rotate_left; (focus (intro w hw; go_simp; try with_reducible rfl)))
   (try simp only [Act.put, List.getElem_toArray, List.getElem_cons_succ, List.getElem_cons_zero]); (try simp only [List.setIfInBounds_toArray]); (try simp only [List.set_cons_succ]); (try simp only [List.set_cons_zero])
   first | (have uu := u1; clear uu; (refine wpAnyG_take (i := 6) (v := undef) rfl (by kernel_rfl) (by kernel_rfl) (by kernel_rfl) (by kernel_rfl) (fun _ _ _ h => h) HC.out.st (Or.inr ⟨by kernel_rfl, rfl⟩) ?_)) | (refine wpAnyG_take (i := 6) (v := ?_) rfl (by kernel_rfl) (by kernel_rfl) (by kernel_rfl) (by kernel_rfl) (fun _ _ _ h => h) HC.out.st (Or.inl ⟨by kernel_rfl, ?_⟩) ?_; rotate_left; (focus (intro w hw; obtain ⟨y0, y1, y2, y3, y4, y5, y6⟩ := KEY.out w hw; go_simp; try with_reducible rfl)))
   (try simp only [Act.put, List.getElem_toArray, List.getElem_cons_succ, List.getElem_cons_zero]); (try simp only [List.setIfInBounds_toArray]); (try simp only [List.set_cons_succ]); (try simp only [List.set_cons_zero])
   first | (have uu := u1; clear uu; (refine wpAnyG_take (i := 7) (v := undef) rfl (by kernel_rfl) (by kernel_rfl) (by kernel_rfl) (by kernel_rfl) (fun _ _ _ h => h) HC.out.st (Or.inr ⟨by kernel_rfl, rfl⟩) ?_)) | (refine wpAnyG_take (i := 7) (v := ?_) rfl (by kernel_rfl) (by kernel_rfl) (by kernel_rfl) (by kernel_rfl) (fun _ _ _ h => h) HC.out.st (Or.inl ⟨by kernel_rfl, ?_⟩) ?_; rotate_left; (focus (intro w hw; obtain ⟨y0, y1, y2, y3, y4, y5, y6⟩ := KEY.out w hw; go_simp; try with_reducible rfl)))
   (try simp only [Act.put, List.getElem_toArray, List.getElem_cons_succ, List.getElem_cons_zero]); (try simp only [List.setIfInBounds_toArray]); (try simp only [List.set_cons_succ]); (try simp only [List.set_cons_zero])
   first | (have uu := u1; clear uu; (refine wpAnyG_take (i := 8) (v := undef) rfl (by kernel_rfl) (by kernel_rfl) (by kernel_rfl) (by kernel_rfl) (fun _ _ _ h => h) HC.out.st (Or.inr ⟨by kernel_rfl, rfl⟩) ?_)) | (refine wpAnyG_take (i := 8) (v := ?_) rfl (by kernel_rfl) (by kernel_rfl) (by kernel_rfl) (by kernel_rfl) (fun _ _ _ h => h) HC.out.st (Or.inl ⟨by kernel_rfl, ?_⟩) ?_; rotate_left; (focus (intro w hw; go_simp; try with_reducible rfl)))
   (try simp only [Act.put, List.getElem_toArray, List.getElem_cons_succ, List.getElem_cons_zero]); (try simp only [List.setIfInBounds_toArray]); (try simp only [List.set_cons_succ]); (try simp only [List.set_cons_zero])
   first | (have uu := u1; clear uu; (refine wpAnyG_take (i := 9) (v := undef) rfl (by kernel_rfl) (by kernel_rfl) (by kernel_rfl) (by kernel_rfl) (fun _ _ _ h => h) HC.out.st (Or.inr ⟨by kernel_rfl, rfl⟩) ?_)) | (refine wpAnyG_one (i := 9) (by kernel_rfl) rfl (fun K hK => ?_); go_simp; refine (in_ok gs k lA ln lk _ (PB.ints HP.out.lr HP.out.lt HC.out.st.bel)).mono ?_; rintro e wz ⟨rfl, hb⟩; rw [HZ.out]; have HC := Lib.hid (HC.out.go hb); clear hb; dsimp only; refine hK.out _ _ (Or.inr HC.out.st) ?_; clear hK K)
   (try simp only [Act.put, List.getElem_toArray, List.getElem_cons_succ, List.getElem_cons_zero]); (try simp only [List.setIfInBounds_toArray]); (try simp only [List.set_cons_succ]); (try simp only [List.set_cons_zero])
   (refine wpAnyG_take (i := 10) (v := ?_) rfl (by kernel_rfl) (by kernel_rfl) (by kernel_rfl) (by kernel_rfl) (fun _ _ _ h => h) HC.out.st (Or.inl ⟨by kernel_rfl, ?_⟩) ?_; rotate_left; (focus (intro w hw; go_simp; try with_reducible rfl)))
   (try simp only [Act.put, List.getElem_toArray, List.getElem_cons_succ, List.getElem_cons_zero]); (try simp only [List.setIfInBounds_toArray]); (try simp only [List.set_cons_succ]); (try simp only [List.set_cons_zero])
   (refine wpAnyG_take (i := 11) (v := ?_) rfl (by kernel_rfl) (by kernel_rfl) (by kernel_rfl) (by kernel_rfl) (fun _ _ _ h => h) HC.out.st (Or.inl ⟨by kernel_rfl, ?_⟩) ?_; rotate_left; (focus (intro w hw; go_simp; try with_reducible rfl)))
   (try simp only [Act.put, List.getElem_toArray, List.getElem_cons_succ, List.getElem_cons_zero]); (try simp only [List.setIfInBounds_toArray]); (try simp only [List.set_cons_succ]); (try simp only [List.set_cons_zero])
   first | (have uu := u2; clear uu; (refine wpAnyG_take (i := 12) (v := undef) rfl (by kernel_rfl) (by kernel_rfl) (by kernel_rfl) (by kernel_rfl) (fun _ _ _ h => h) HC.out.st (Or.inr ⟨by kernel_rfl, rfl⟩) ?_)) | (refine wpAnyG_take (i := 12) (v := ?_) rfl (by kernel_rfl) (by kernel_rfl) (by kernel_rfl) (by kernel_rfl) (fun _ _ _ h => h) HC.out.st (Or.inl ⟨by kernel_rfl, ?_⟩) ?_; rotate_left; (focus (intro w hw; go_simp; try with_reducible rfl)))
   (try simp only [Act.put, List.getElem_toArray, List.getElem_cons_succ, List.getElem_cons_zero]); (try simp only [List.setIfInBounds_toArray]); (try simp only [List.set_cons_succ]); (try simp only [List.set_cons_zero])
   first | (have uu := u2; clear uu; (refine wpAnyG_take (i := 13) (v := undef) rfl (by kernel_rfl) (by kernel_rfl) (by kernel_rfl) (by kernel_rfl) (fun _ _ _ h => h) HC.out.st (Or.inr ⟨by kernel_rfl, rfl⟩) ?_)) | (refine wpAnyG_take (i := 13) (v := ?_) rfl (by kernel_rfl) (by kernel_rfl) (by kernel_rfl) (by kernel_rfl) (fun _ _ _ h => h) HC.out.st (Or.inl ⟨by kernel_rfl, ?_⟩) ?_; rotate_left; (focus (intro w hw; obtain ⟨y0, y1, y2, y3, y4, y5, y6⟩ := KEY.out w hw; go_simp; try with_reducible rfl)))
   (try simp only [Act.put, List.getElem_toArray, List.getElem_cons_succ, List.getElem_cons_zero]); (try simp only [List.setIfInBounds_toArray]); (try simp only [List.set_cons_succ]); (try simp only [List.set_cons_zero])
   first | (have uu := u2; clear uu; (refine wpAnyG_take (i := 14) (v := undef) rfl (by kernel_rfl) (by kernel_rfl) (by kernel_rfl) (by kernel_rfl) (fun _ _ _ h => h) HC.out.st (Or.inr ⟨by kernel_rfl, rfl⟩) ?_)) | (refine wpAnyG_take (i := 14) (v := ?_) rfl (by kernel_rfl) (by kernel_rfl) (by kernel_rfl) (by kernel_rfl) (fun _ _ _ h => h) HC.out.st (Or.inl ⟨by kernel_rfl, ?_⟩) ?_; rotate_left; (focus (intro w hw; go_simp; try with_reducible rfl)))
   (try simp only [Act.put, List.getElem_toArray, List.getElem_cons_succ, List.getElem_cons_zero]); (try simp only [List.setIfInBounds_toArray]); (try simp only [List.set_cons_succ]); (try simp only [List.set_cons_zero])
   first | (have uu := u2; clear uu; (refine wpAnyG_take (i := 15) (v := undef) rfl (by kernel_rfl) (by kernel_rfl) (by kernel_rfl) (by kernel_rfl) (fun _ _ _ h => h) HC.out.st (Or.inr ⟨by kernel_rfl, rfl⟩) ?_)) | (refine wpAnyG_take (i := 15) (v := ?_) rfl (by kernel_rfl) (by kernel_rfl) (by kernel_rfl) (by kernel_rfl) (fun _ _ _ h => h) HC.out.st (Or.inl ⟨by kernel_rfl, ?_⟩) ?_; rotate_left; (focus (intro w hw; go_simp; try with_reducible rfl)))
   (try simp only [Act.put, List.getElem_toArray, List.getElem_cons_succ, List.getElem_cons_zero]); (try simp only [List.setIfInBounds_toArray]); (try simp only [List.set_cons_succ]); (try simp only [List.set_cons_zero])
   first | (have uu := u3; clear uu; (refine wpAnyG_take (i := 16) (v := undef) rfl (by kernel_rfl) (by kernel_rfl) (by kernel_rfl) (by kernel_rfl) (fun _ _ _ h => h) HC.out.st (Or.inr ⟨by kernel_rfl, rfl⟩) ?_)) | (refine wpAnyG_take (i := 16) (v := ?_) rfl (by kernel_rfl) (by kernel_rfl) (by kernel_rfl) (by kernel_rfl) (fun _ _ _ h => h) HC.out.st (Or.inl ⟨by kernel_rfl, ?_⟩) ?_; rotate_left; (focus (intro w hw; obtain ⟨y0, y1, y2, y3, y4, y5, y6⟩ := KEY.out w hw; go_simp; try with_reducible rfl)))
   (try simp only [Act.put, List.getElem_toArray, List.getElem_cons_succ, List.getElem_cons_zero]); (try simp only [List.setIfInBounds_toArray]); (try simp only [List.set_cons_succ]); (try simp only [List.set_cons_zero])
   first | (have uu := u3; clear uu; (refine wpAnyG_take (i := 17) (v := undef) rfl (by kernel_rfl) (by kernel_rfl) (by kernel_rfl) (by kernel_rfl) (fun _ _ _ h => h) HC.out.st (Or.inr ⟨by kernel_rfl, rfl⟩) ?_)) | (refine wpAnyG_take (i := 17) (v := ?_) rfl (by kernel_rfl) (by kernel_rfl) (by kernel_rfl) (by kernel_rfl) (fun _ _ _ h => h) HC.out.st (Or.inl ⟨by kernel_rfl, ?_⟩) ?_; rotate_left; (focus (intro w hw; obtain ⟨y0, y1, y2, y3, y4, y5, y6⟩ := KEY.out w hw; go_simp; try with_reducible rfl)))
   (try simp only [Act.put, List.getElem_toArray, List.getElem_cons_succ, List.getElem_cons_zero]); (try simp only [List.setIfInBounds_toArray]); (try simp only [List.set_cons_succ]); (try simp only [List.set_cons_zero])
   first | (have uu := u3; clear uu; (refine wpAnyG_take (i := 18) (v := undef) rfl (by kernel_rfl) (by kernel_rfl) (by kernel_rfl) (by kernel_rfl) (fun _ _ _ h => h) HC.out.st (Or.inr ⟨by kernel_rfl, rfl⟩) ?_)) | (refine wpAnyG_take (i := 18) (v := ?_) rfl (by kernel_rfl) (by kernel_rfl) (by kernel_rfl) (by kernel_rfl) (fun _ _ _ h => h) HC.out.st (Or.inl ⟨by kernel_rfl, ?_⟩) ?_; rotate_left; (focus (intro w hw; go_simp; try with_reducible rfl)))
   (try simp only [Act.put, List.getElem_toArray, List.getElem_cons_succ, List.getElem_cons_zero]); (try simp only [List.setIfInBounds_toArray]); (try simp only [List.set_cons_succ]); (try simp only [List.set_cons_zero])
   first | (have uu := u3; clear uu; (refine wpAnyG_take (i := 19) (v := undef) rfl (by kernel_rfl) (by kernel_rfl) (by kernel_rfl) (by kernel_rfl) (fun _ _ _ h => h) HC.out.st (Or.inr ⟨by kernel_rfl, rfl⟩) ?_)) | (refine wpAnyG_one (i := 19) (by kernel_rfl) rfl (fun K hK => ?_); go_simp; refine (in_ok ws k wA wn wk _ (PB.ints HP.out.wr HP.out.lt HC.out.st.bel)).mono ?_; rintro e wy ⟨rfl, hb⟩; rw [HZ2.out]; have HC := Lib.hid (HC.out.go hb); clear hb; dsimp only; refine hK.out _ _ (Or.inr HC.out.st) ?_; clear hK K)
   (try simp only [Act.put, List.getElem_toArray, List.getElem_cons_succ, List.getElem_cons_zero]); (try simp only [List.setIfInBounds_toArray]); (try simp only [List.set_cons_succ]); (try simp only [List.set_cons_zero])
   first | (have uu := u2; clear uu; (refine wpAnyG_take (i := 20) (v := undef) rfl (by kernel_rfl) (by kernel_rfl) (by kernel_rfl) (by kernel_rfl) (fun _ _ _ h => h) HC.out.st (Or.inr ⟨by kernel_rfl, rfl⟩) ?_)) | (refine wpAnyG_take (i := 20) (v := ?_) rfl (by kernel_rfl) (by kernel_rfl) (by kernel_rfl) (by kernel_rfl) (fun _ _ _ h => h) HC.out.st (Or.inl ⟨by kernel_rfl, ?_⟩) ?_; rotate_left; (focus (intro w hw; go_simp; try with_reducible rfl)))
   (try simp only [Act.put, List.getElem_toArray, List.getElem_cons_succ, List.getElem_cons_zero]); (try simp only [List.setIfInBounds_toArray]); (try simp only [List.set_cons_succ]); (try simp only [List.set_cons_zero])
   (refine wpAnyG_take (i := 21) (v := ?_) rfl (by kernel_rfl) (by kernel_rfl) (by kernel_rfl) (by kernel_rfl) (fun _ _ _ h => h) HC.out.st (Or.inl ⟨by kernel_rfl, ?_⟩) ?_; rotate_left; (focus (intro w hw; go_simp; try with_reducible rfl)))
   (try simp only [Act.put, List.getElem_toArray, List.getElem_cons_succ, List.getElem_cons_zero]); (try simp only [List.setIfInBounds_toArray]); (try simp only [List.set_cons_succ]); (try simp only [List.set_cons_zero])
   (refine wpAnyG_take (i := 23) (v := ?_) rfl (by kernel_rfl) (by kernel_rfl) (by kernel_rfl) (by kernel_rfl) (fun _ _ _ h => h) HC.out.st (Or.inl ⟨by kernel_rfl, ?_⟩) ?_; rotate_left; (focus (intro w hw; go_simp; try with_reducible rfl)))
   (try simp only [Act.put, List.getElem_toArray, List.getElem_cons_succ, List.getElem_cons_zero]); (try simp only [List.setIfInBounds_toArray]); (try simp only [List.set_cons_succ]); (try simp only [List.set_cons_zero])
   refine wpAnyG_one (i := 24) (by kernel_rfl) rfl (fun K hK => ?_)
   go_simp
   refine hK.out _ _ (Or.inr (HC.out.alloc _).st) ?_; clear hK K
   refine wpAnyG_one (i := 25) (by kernel_rfl) rfl (fun K hK => ?_)
   refine step_append_lies _ (by rfl) (.tmp 13) (.tmp 37) 42 (by rfl) base 45 i0 _ 3 32 Tryz.underlying42 hi0 hz0 hz1 hz2 rfl (by omega) (.slice A n c) n (placesV l) (by rfl) (HC.out.alloc _).own ⟨_, 0, none⟩ 1 1 [.int .i64 k, .bool _, .string ⟨sh2.toArray⟩] (by rfl) (by rfl) (World.news_of_block (heap_alloc_new _ _)) (one3 _ _ _ rfl rfl rfl) (by omega) (by simp only [maxLen]; omega) (by omega) (Nat.le_trans HB2.out (HC.out.alloc _).bel.size) _ rfl ?_
   intro g3 cap3 w3 hown3 hgrow3 hat3 _
   have HS3 := Lib.hid ((HC.out.alloc _).grown hgrow3 HBS.out)
   have HE3 := Lib.hid (add_end (p := (k, _, sh2)) (r := .tuple #[]) HN.out HBS.out (HC.out.alloc _) hown3 hgrow3 hat3)
   have hcS : w3.cell? ⟨outb, 0, none⟩ = some (.slice A n c) := by rw [cell_of_row w3 outb 0 _ _ _ HS3.out.out]; rfl
   have hfS := blk_frozen HS3.out.out 0
   clear hown3 hgrow3 hat3
   refine hK.out _ _ (Or.inr HS3.out) ?_; clear hK K
   refine wpAnyG_one (i := 26) (by kernel_rfl) rfl (fun K hK => ?_)
   go_simp
   refine hK.out _ _ (Or.inl rfl) ?_; clear hK K
   refine wpAnyG_done (by kernel_rfl) (bodyPost_end (results_none rfl _ _ _) rfl HE3.out) _
end
section
open Go.Shelf Go.RowKit Go.Lib Go.Proofs.YtmpkgddioiaonaaGreatDoor.Am
open Folds (dec dec_pos dec_le)
/-- the edges of a text from a place on -/
def plF (sh : List UInt8 → List UInt8) (may : Int → Bool) (t : List UInt8) : Nat → Nat → List Left.Pl
 | 0, _ => []
 | n + 1, e => if e < t.length then (e, may e, sh ((t.drop e).take (dec (t.drop e)).2)) :: plF sh may t n (e + (dec (t.drop e)).2) else [(t.length, may t.length, sh [])]
def shF (fo : Bool) (x : List UInt8) : List UInt8 := if fo = true then wr 3 x else x
theorem mayF_eq (le wo : Bool) (gs ws : List Int) (k : Int) : mayF le wo (if le = true then gs else []) (if wo = true then ws else []) k = mayF le wo gs ws k := by
 cases le <;> cases wo <;> rfl
theorem ints_go {w w' : World} {A : Option Addr} {n : Nat} {zs : List Int} (h : IntsR w A n zs) (hb : Below w.heap.size w w') : IntsR w' A n zs := PB.ints h rfl hb
theorem ints_nil (w : World) : IntsR w none 0 [] := ⟨rfl, Nat.zero_le _, fun h => absurd h (Nat.lt_irrefl _)⟩
theorem ints_set {w : World} {A : Option Addr} {n b : Nat} {zs : List Int} {x : Option Addr} {y z : Nat} {T : TypeId} (h : IntsR w A n zs) (hb : w.heap[b]? = some (.cells #[.slice x y z] T (0, 0))) (u : Value) : IntsR (w.setCell ⟨b, 0, none⟩ u) A n zs :=
 ⟨h.len, h.small, fun h0 => by
  obtain ⟨g, o, e, hg, hc⟩ := h.at_ h0
  have hne : b ≠ g := by
   rintro rfl
   have := hc 0 h0
   rw [cell_of_row w b _ _ _ _ hb] at this
   cases o with
   | zero => simp at this
   | succ o => simp at this
  exact ⟨g, o, e, by rw [World.size_setCell]; exact hg, fun j hj => by rw [World.cell?_setCell_far _ _ _ _ hne]; exact hc j hj⟩⟩
/-- the three boxes -/
structure P3 (W : World) (fo le wo : Bool) (lv wv : Value) (w : World) : Prop where
 bel : Below W.heap.size W w
 o : w.heap[W.heap.size]? = some (.cells #[.bool fo, .bool le, .bool wo] 23 (0, 0))
 l : w.heap[W.heap.size + 1]? = some (.cells #[lv] 36 (0, 0))
 w : w.heap[W.heap.size + 1 + 1]? = some (.cells #[wv] 36 (0, 0))
section
variable {W w w' : World} {fo le wo : Bool} {lv wv : Value}
theorem P3.go (h : P3 W fo le wo lv wv w) (hb : Below w.heap.size w w') : P3 W fo le wo lv wv w' :=
 ⟨h.bel.trans (hb.mono h.bel.size), below_blk hb h.o, below_blk hb h.l, below_blk hb h.w⟩
theorem setCell_ne {g k : Nat} {i : Nat} {u : Value} {o : Obj} (h : w.heap[g]? = some o) (hne : g ≠ k) : (w.setCell ⟨k, i, none⟩ u).heap[g]? = some o := (Below.heap_setCell w ⟨k, i, none⟩ u g hne).trans h
theorem P3.setl (h : P3 W fo le wo lv wv w) (u : Value) : P3 W fo le wo u wv (w.setCell ⟨W.heap.size + 1, 0, none⟩ u) :=
 ⟨h.bel.setCell (Nat.le_succ _) _, setCell_ne h.o (by omega), set_blk h.l 0 u, setCell_ne h.w (by omega)⟩
theorem P3.setw (h : P3 W fo le wo lv wv w) (u : Value) : P3 W fo le wo lv u (w.setCell ⟨W.heap.size + 1 + 1, 0, none⟩ u) :=
 ⟨h.bel.setCell (by show W.heap.size ≤ W.heap.size + 1 + 1; omega) _, setCell_ne h.o (by omega), setCell_ne h.l (by omega), set_blk h.w 0 u⟩
theorem P3.start (W : World) (fo le wo : Bool) : P3 W fo le wo (.slice none 0 0) (.slice none 0 0) (((W.alloc (.cells #[.bool fo, .bool le, .bool wo] 23)).alloc (.cells #[.slice none 0 0] 36)).alloc (.cells #[.slice none 0 0] 36)) := by
 have h1 := (Below.refl W.heap.size W).alloc (Nat.le_refl _) (.cells #[.bool fo, .bool le, .bool wo] 23)
 have h2 := h1.alloc h1.size (.cells #[.slice none 0 0] 36)
 have h3 := h2.alloc h2.size (.cells #[.slice none 0 0] 36)
 refine ⟨h3, ?_, ?_, ?_⟩
 ·change (((W.heap.push _).push _).push _)[_]? = _
  rw [Array.getElem?_push, if_neg (by simp only [Array.size_push]; omega), Array.getElem?_push, if_neg (by simp only [Array.size_push]; omega), Array.getElem?_push, if_pos rfl]
 ·change (((W.heap.push _).push _).push _)[_]? = _
  rw [Array.getElem?_push, if_neg (by simp only [Array.size_push]; omega), Array.getElem?_push, if_pos (by simp only [Array.size_push])]
 ·change (((W.heap.push _).push _).push _)[_]? = _
  rw [Array.getElem?_push, if_pos (by simp only [Array.size_push])]
end
/-- the loop's state -/
structure PL (W0 : World) (s : ByteArray) (outb e : Nat) (acc : List Left.Pl) (v : Value) (w : World) : Prop where
 st : AS W0 outb v w
 it : w.heap[outb + 1]? = some (.stringIter s e)
 own : w.ownsRow (outb + 1) 45 3 v acc.length (placesV acc)
section
variable {W0 w w' : World} {s : ByteArray} {outb e : Nat} {acc : List Left.Pl} {v : Value}
theorem PL.go (h : PL W0 s outb e acc v w) (hb : Below w.heap.size w w') : PL W0 s outb e acc v w' := ⟨h.st.go hb, below_blk hb h.it, own_below hb h.own⟩
theorem PL.iter (h : PL W0 s outb e acc v w) (e' : Nat) : PL W0 s outb e' acc v (w.iterAt (outb + 1) s e') :=
 ⟨⟨below_iterAt h.st.bel (Nat.le_succ _) s e', (iterAt_other w _ _ s e' (by omega)).trans h.st.out⟩, iterAt_heap w _ s e e' h.it, own_iterAt h.it h.own⟩
theorem PL.add {p : Left.Pl} {x : Ending} (h : PL W0 s outb e acc v w) (ha : AddPost W0 outb v (outb + 1) (acc ++ [p]) w x w') : ∃ v', PL W0 s outb e (acc ++ [p]) v' w' := by
 obtain ⟨_, hf, v', h1, h2, _⟩ := ha
 refine ⟨v', h1, ?_, h2⟩
 rw [hf.block _ (heap_lt h.it) fun c => ?_]
 ·exact h.it
 ·rcases c with c | c
  ·omega
  ·obtain ⟨_, _, cur, hc⟩ := own_lt h.own c
   rw [h.it] at hc
   cases hc
end
def PlacesPost (l : List Left.Pl) (W : World) (e : Ending) (w' : World) : Prop := ∃ v, e = .returned v ∧ Below W.heap.size W w' ∧ w'.ownsRow W.heap.size 45 3 v l.length (placesV l)
def IntsPost (zs : List Int) (W : World) (e : Ending) (w' : World) : Prop := ∃ A n c, e = .returned (.slice A n c) ∧ IntsR w' A n zs ∧ Below W.heap.size W w'
set_option maxHeartbeats 4000000 in
set_option maxRecDepth 100000 in
theorem places_ok (t : List UInt8) (fo le wo : Bool) (gs ws : List Int) (W : World) (hT : Lib.Utf8Tabs 1 2 W) (hn : t.length ≤ 10000)
 (hF : fo = true → ∀ (x : List UInt8) (w : World), Below W.heap.size W w → x.length ≤ 10000 → Calls Tryz.prog 13 #[.string ⟨x.toArray⟩] w fun e w' => e = .returned (.string ⟨(wr 3 x).toArray⟩) ∧ Below w.heap.size w w')
 (hG : le = true → ∀ w, Below W.heap.size W w → Calls Tryz.prog 24 #[.string ⟨t.toArray⟩] w (IntsPost gs w)) (hW : wo = true → ∀ w, Below W.heap.size W w → Calls Tryz.prog 25 #[.string ⟨t.toArray⟩] w (IntsPost ws w)) :
 Calls Tryz.prog 14 #[.string ⟨t.toArray⟩, .agg #[.bool fo, .bool le, .bool wo]] W (PlacesPost (plF (shF fo) (mayF le wo gs ws) t (t.length + 1) 0) W) := by
 have hmf : ∀ fn first cap w, (Instr.makeFunc fn first cap).run Tryz.prog w = .ok (.func fn first cap) w := fun _ _ _ _ => rfl
 have hmay : mayF le wo gs ws = mayF le wo (if le = true then gs else []) (if wo = true then ws else []) := funext fun k => (mayF_eq le wo gs ws k).symm
 rw [hmay]
 clear hmay
 obtain ⟨gs', hgs⟩ : ∃ l, (if le = true then gs else []) = l := ⟨_, rfl⟩
 obtain ⟨ws', hws⟩ : ∃ l, (if wo = true then ws else []) = l := ⟨_, rfl⟩
 rw [hgs, hws]
 have HGS := Lib.hid hgs; have HWS := Lib.hid hws; have HT := Lib.hid hT; have HF := Lib.hid hF; have HG := Lib.hid hG; have HW := Lib.hid hW
 obtain ⟨s, hs⟩ : ∃ s : ByteArray, (⟨t.toArray⟩ : ByteArray) = s := ⟨_, rfl⟩
 have HSS := Lib.hid (size_mk t s hs)
 rw [hs] at HG HW ⊢
 have HS := Lib.hid hs; have HNT := Lib.hid hn
 clear hs hgs hws hT hF hG hW hn
 have HP0 := Lib.hid (P3.start W fo le wo)
 go_enter Tryz.func14, Tryz.ntmps14
 go_upto_if 14 with (fail)
 go_cut [] (fun wx => ∃ lA ln lk, P3 W fo le wo (.slice lA ln lk) (.slice none 0 0) wx ∧ IntsR wx lA ln gs')
 case first =>
  cases le
  case false =>
   have HE := Lib.hid (show gs' = [] by rw [← HGS.out, if_neg Bool.false_ne_true])
   clear HGS
   go_wp2_with fail
   go_meet
   exact ⟨none, 0, 0, HP0.out, by rw [HE.out]; exact ints_nil _⟩
  case true =>
   have HE := Lib.hid (show gs' = gs by rw [← HGS.out, if_pos rfl])
   clear HGS
   go_wp2_with (go_at_call 24; refine (HG.out rfl _ HP0.out.bel).mono ?_; rintro e w1 ⟨lA, ln, lk, rfl, hi, hb⟩; have HP1 := Lib.hid (HP0.out.go hb); have HI1 := Lib.hid hi; clear hb hi; have q1 : w1.cell? ⟨W.heap.size + 1, 0, none⟩ = some (.slice none 0 0) := (cell_of_row w1 _ 0 _ _ _ HP1.out.l).trans rfl; have q2 := blk_frozen HP1.out.l 0)
   go_meet
   exact ⟨lA, ln, lk, HP1.out.setl _, by rw [HE.out]; exact ints_set HI1.out HP1.out.l _⟩
 case rest =>
  obtain ⟨lA, ln, lk, hp, hi⟩ := hcut
  have HP1 := Lib.hid hp; have HI1 := Lib.hid hi
  have q3 : wc.cell? ⟨W.heap.size, 2, none⟩ = some (.bool wo) := (cell_of_row wc _ 2 _ _ _ hp.o).trans rfl
  clear hp hi HP0
  go_upto_if 18 with (fail)
  go_cut [] (fun wx => ∃ wA wn wk, P3 W fo le wo (.slice lA ln lk) (.slice wA wn wk) wx ∧ IntsR wx lA ln gs' ∧ IntsR wx wA wn ws')
  case first =>
   cases wo
   case false =>
    have HE := Lib.hid (show ws' = [] by rw [← HWS.out, if_neg Bool.false_ne_true])
    clear HWS
    go_wp2_with fail
    go_meet
    exact ⟨none, 0, 0, HP1.out, HI1.out, by rw [HE.out]; exact ints_nil _⟩
   case true =>
    have HE := Lib.hid (show ws' = ws by rw [← HWS.out, if_pos rfl])
    clear HWS
    go_wp2_with (go_at_call 25; refine (HW.out rfl _ HP1.out.bel).mono ?_; rintro e w1 ⟨wA, wn, wk, rfl, hi, hb⟩; have HP2 := Lib.hid (HP1.out.go hb); have HI2 := Lib.hid hi; have HI3 := Lib.hid (ints_go HI1.out hb); clear hb hi; have q1 : w1.cell? ⟨W.heap.size + 1 + 1, 0, none⟩ = some (.slice none 0 0) := (cell_of_row w1 _ 0 _ _ _ HP2.out.w).trans rfl; have q2 := blk_frozen HP2.out.w 0)
    go_meet
    exact ⟨wA, wn, wk, HP2.out.setw _, ints_set HI3.out HP2.out.w _, by rw [HE.out]; exact ints_set HI2.out HP2.out.w _⟩
  case rest =>
   obtain ⟨wA, wn, wk, hp, hi, hi2⟩ := hcut
   have hbW : Below wc.heap.size wc (wc.alloc (.cells #[.func (.func 26) #[] #[]] 65)) := (Below.refl _ wc).alloc (Nat.le_refl _) _
   have HB0 := Lib.hid (show PB (wc.alloc (.cells #[.func (.func 26) #[] #[]] 65)) W.heap.size wc.heap.size (W.heap.size + 1) (W.heap.size + 1 + 1) (wc.heap.size + 1) fo le wo lA ln lk gs' wA wn wk ws' from
    ⟨below_blk hbW hp.o, heap_alloc_new wc _, below_blk hbW hp.l, below_blk hbW hp.w, ints_go hi hbW, ints_go hi2 hbW, by simp⟩)
   obtain ⟨W0, hW0⟩ : ∃ W0, wc.alloc (.cells #[.func (.func 26) #[] #[]] 65) = W0 := ⟨_, rfl⟩
   have HP2 := Lib.hid (hp.go hbW)
   rw [hW0] at HB0 HP2
   have HW0 := Lib.hid hW0
   clear hbW hp hi hi2 hW0 HP1 HI1 q3
   go_wp2
   rw [HW0.out]
   have hsz : wc.heap.size + 1 = W0.heap.size := HB0.out.lt.symm
   have HBW := Lib.hid (show W.heap.size ≤ wc.heap.size + 1 by rw [hsz]; exact HP2.out.bel.size)
   obtain ⟨inb, hinb⟩ : ∃ inb, wc.heap.size = inb := ⟨_, rfl⟩
   rw [hinb] at hsz HB0 HBW ⊢
   obtain ⟨ob, hob⟩ : ∃ ob, inb + 1 = ob := ⟨_, rfl⟩
   rw [hob] at hsz HB0 HBW ⊢
   clear HW0 hinb hob
   have HSZ := Lib.hid hsz
   clear hsz
   go_loopw [10] (fun _ wr => ∃ e n acc v, PL W0 s ob e acc v wr ∧ e ≤ t.length ∧ t.length < n + e ∧ acc.length ≤ e ∧ acc ++ plF (shF fo) (mayF le wo gs' ws') t n e = plF (shF fo) (mayF le wo gs' ws') t (t.length + 1) 0) (fun _ wr => s.size - wr.iterPos (ob + 1))
   case atStart =>
    refine ⟨0, t.length + 1, [], .slice none 0 0, ⟨⟨?_, ?_⟩, ?_, ⟨rfl, .inl ⟨rfl, rfl⟩⟩⟩, Nat.zero_le _, Nat.lt_succ_self _, Nat.le_refl _, rfl⟩
    ·have h1 : Below ob W0 (W0.alloc (.cells #[.slice none 0 0] 42)) := (Below.refl _ W0).alloc (by rw [HSZ.out]; exact Nat.le_refl _) _
     exact h1.alloc (by rw [World.size_alloc, ← HSZ.out]; exact Nat.le_succ _) _
    ·exact (Below.heap_alloc _ _ ob (by rw [World.size_alloc, ← HSZ.out]; exact Nat.lt_succ_self _)).trans (by rw [HSZ.out]; exact heap_alloc_new _ _)
    ·have := World.iter_heap (W0.alloc (.cells #[.slice none 0 0] 42)) s 0
     rw [World.size_alloc, ← HSZ.out] at this
     exact this
   case round =>
    obtain ⟨e, n, acc, v, hPL, he, hne, hacc, hl⟩ := hrel
    have hit := hPL.it
    have HL := Lib.hid hl; clear hl
    have hss := HSS.out
    have hnt := HNT.out
    by_cases hlt : e < s.size
    ·have hlt2 : e < t.length := by omega
     have HP := Lib.hid hPL; clear hPL
     have hnx := fun ty => run_next_any_at (P := Tryz.prog) wr _ s e ty hit hlt
     rw [decode_drop t e s HS.out] at hnx
     have hne2 : t.drop e ≠ [] := by intro c; rw [List.drop_eq_nil_iff] at c; omega
     have hd1 := dec_pos (t.drop e)
     have hd2 := dec_le (t.drop e) hne2
     rw [List.length_drop] at hd2
     obtain ⟨n', rfl⟩ : ∃ n', n = n' + 1 := ⟨n - 1, by omega⟩
     have hpl : plF (shF fo) (mayF le wo gs' ws') t (n' + 1) e = (e, mayF le wo gs' ws' e, shF fo ((t.drop e).take (dec (t.drop e)).2)) :: plF (shF fo) (mayF le wo gs' ws') t n' (e + (dec (t.drop e)).2) := by
      show (if e < t.length then _ else _) = _
      rw [if_pos hlt2]
     obtain ⟨r, hr⟩ : ∃ r : Int, ((dec (t.drop e)).1 : Int) = r := ⟨_, rfl⟩
     obtain ⟨wd, hwd⟩ : ∃ wd, (dec (t.drop e)).2 = wd := ⟨_, rfl⟩
     have HDC := Lib.hid (fun w (h : Below W.heap.size W w) => Decode_ok (t.drop e) hne2 w (tabs_below h HT.out))
     rw [hr, hwd] at hnx HDC
     rw [hwd] at hpl hd1 hd2
     clear hr hwd
     obtain ⟨sh, hsh⟩ : ∃ sh, (t.drop e).take wd = sh := ⟨_, rfl⟩
     have hx1 := pc_ext t e s HS.out
     have hx2 : s.extract e (e + wd) = ⟨sh.toArray⟩ := by rw [← HS.out, ByteArray.extract_mk, Nat.add_sub_cancel_left, ← hsh]
     obtain ⟨ew, hew⟩ : ∃ ew, e + wd = ew := ⟨_, rfl⟩
     rw [hsh, hew] at hpl
     rw [hew] at hnx hx2
     have hwr : wrap64 ((e : Int) + wd) = ew := by unfold wrap64; omega
     have hshl : sh.length ≤ 10000 := by rw [← hsh, List.length_take, List.length_drop]; omega
     have hi0 : (0 : Int) ≤ e := by omega
     have hi1 : (e : Int) ≤ s.size := by omega
     have hi2 : (e : Int) ≤ ew := by omega
     have hi3 : (ew : Int) ≤ s.size := by omega
     have HPL := Lib.hid hpl; have HG := Lib.hid (And.intro hd1 hd2); have HEW := Lib.hid hew; have HSL := Lib.hid hshl
     clear hpl hd1 hd2 hne2 hsh hew hshl
     have HSM := Lib.hid (show acc.length ≤ 1000000 by omega)
     have HAR := Lib.hid (And.intro he (And.intro hne hacc))
     clear hss hnt he hne hacc hlt2
     have HP1 := Lib.hid (HP.out.iter ew)
     have HBB := Lib.hid (fun w (h : AS W0 ob v w) => HP2.out.bel.trans (h.bel.mono (by rw [HSZ.out]; exact HP2.out.bel.size)))
     go_wp2_with (first
      | (go_at_call 29; refine (HDC.out _ (HBB.out _ HP1.out.st)).mono ?_; rintro x w1 ⟨rfl, hb1⟩; have HPA := Lib.hid (HP1.out.go hb1); clear hb1)
      | (go_at_call 28; refine (add_ok W0 _ _ _ _ _ fo le wo lA ln lk gs' wA wn wk ws' HB0.out e sh (shF fo sh) acc acc.length (ob + 1) v _ HPA.out.st (fun h => by unfold shF; rw [h]; rfl) (fun h w hw => by have := HF.out h sh w (HBB.out w hw) HSL.out; unfold shF; rw [if_pos h]; exact this) HPA.out.own rfl HSM.out (Nat.lt_succ_self _) (Nat.le_of_lt (heap_lt HPA.out.it))).mono ?_; rintro x w2 hadd; obtain ⟨r2, rfl⟩ := hadd.1; have HPB := Lib.hid (HPA.out.add hadd); clear hadd))
     obtain ⟨v', P3⟩ := HPB.out
     have g1 := HG.out
     have g2 := HEW.out
     have g3 := HSS.out
     obtain ⟨g4, g5, g6⟩ := HAR.out
     refine ⟨⟨ew, n', acc ++ [(e, mayF le wo gs' ws' e, shF fo sh)], v', P3, by omega, by omega, by simp; omega, by rw [← HL.out, HPL.out]; simp⟩, ?_⟩
     have q1 : w2.iterPos (ob + 1) = ew := by unfold World.iterPos; rw [P3.it]
     have q2 : wr.iterPos (ob + 1) = e := by unfold World.iterPos; rw [hit]
     rw [q1, q2]
     omega
    ·have hnx := fun ty => run_next_end_at (P := Tryz.prog) wr _ s e ty hit hlt
     obtain ⟨n', rfl⟩ : ∃ n', n = n' + 1 := ⟨n - 1, by omega⟩
     have hpl : plF (shF fo) (mayF le wo gs' ws') t (n' + 1) e = [(s.size, mayF le wo gs' ws' s.size, shF fo [])] := by
      show (if e < t.length then _ else _) = _
      rw [if_neg (by omega), hss]
     have HPL := Lib.hid hpl; clear hpl
     have HBB := Lib.hid (fun w (h : AS W0 ob v w) => HP2.out.bel.trans (h.bel.mono (by rw [HSZ.out]; exact HP2.out.bel.size)))
     have HADD := Lib.hid (add_ok W0 _ _ _ _ _ fo le wo lA ln lk gs' wA wn wk ws' HB0.out s.size [] (shF fo []) acc acc.length (ob + 1) v wr hPL.st (fun h => by unfold shF; rw [h]; rfl) (fun h w hw => by have := HF.out h [] w (HBB.out w hw) (Nat.zero_le _); unfold shF; rw [if_pos h]; exact this) hPL.own rfl (by omega) (Nat.lt_succ_self _) (Nat.le_of_lt (heap_lt hPL.it)))
     have HP := Lib.hid hPL
     clear hPL hss hnt he hne hacc hlt
     go_wp2_with (go_at_call 28; refine HADD.out.mono ?_; rintro x w2 hadd; obtain ⟨r2, rfl⟩ := hadd.1; obtain ⟨v', hp3⟩ := HP.out.add hadd; obtain ⟨A', c', rfl, _⟩ := own_slice3 hp3.own; have HP3 := Lib.hid hp3; clear hp3 hadd; have hcv : w2.cell? ⟨ob, 0, none⟩ = some (.slice A' (acc ++ [(s.size, mayF le wo gs' ws' s.size, shF fo [])]).length c') := (cell_of_row w2 _ 0 _ _ _ HP3.out.st.out).trans rfl)
     go_ret
     refine ⟨_, rfl, HP2.out.bel.trans (HP3.out.st.bel.mono (by rw [HSZ.out]; exact HP2.out.bel.size)), ?_⟩
     have h := own_base HP3.out.own (base' := W.heap.size) (fun g hg => by have := (own_lt HP3.out.own hg).1; have := HBW.out; omega)
     have hlen : (acc ++ [(s.size, mayF le wo gs' ws' s.size, shF fo [])]).length = acc.length + 1 := by simp
     rw [← HL.out, HPL.out, hlen]
     rw [hlen] at h
     exact h
end
section
open Go.Shelf Go.RowKit Go.Lib Go.Proofs.YtmpkgddioiaonaaGreatDoor.Am
open Folds (dec dec_pos dec_le)
section
variable {sh : List UInt8 → List UInt8} {may : Int → Bool} {t : List UInt8}
theorem drop_le {e : Nat} (h : e < t.length) : e + (dec (t.drop e)).2 ≤ t.length ∧ 0 < (dec (t.drop e)).2 := by
 have hne : t.drop e ≠ [] := by intro c; rw [List.drop_eq_nil_iff] at c; omega
 have h1 := dec_pos (t.drop e)
 have h2 := dec_le (t.drop e) hne
 rw [List.length_drop] at h2
 exact ⟨by omega, h1⟩
theorem plF_ge : ∀ n e, e ≤ t.length → ∀ q ∈ plF sh may t n e, e ≤ q.1
 | 0, _, _, q, h => by cases h
 | n + 1, e, he, q, h => by
   unfold plF at h
   by_cases c : e < t.length
   ·rw [if_pos c] at h
    obtain ⟨d1, d2⟩ := drop_le c
    rcases List.mem_cons.1 h with rfl | h
    ·exact Nat.le_refl _
    ·exact Nat.le_trans (Nat.le_add_right _ _) (plF_ge n _ d1 q h)
   ·rw [if_neg c] at h
    obtain rfl := List.mem_singleton.1 h
    exact he
theorem plF_asc : ∀ n e, e ≤ t.length → Left.asc t.length (plF sh may t n e)
 | 0, _, _ => trivial
 | n + 1, e, he => by
   unfold plF
   by_cases c : e < t.length
   ·rw [if_pos c]
    obtain ⟨d1, d2⟩ := drop_le c
    exact ⟨he, fun q hq => Nat.lt_of_lt_of_le (Nat.lt_add_of_pos_right d2) (plF_ge n _ d1 q hq), plF_asc n _ d1⟩
   ·rw [if_neg c]
    exact ⟨Nat.le_refl _, fun q hq => absurd hq List.not_mem_nil, trivial⟩
theorem plF_len : ∀ n e, (plF sh may t n e).length ≤ n
 | 0, _ => Nat.le_refl _
 | n + 1, e => by
   unfold plF
   split
   ·exact Nat.succ_le_succ (plF_len n _)
   ·exact Nat.succ_le_succ (Nat.zero_le _)
theorem plF_ne (n e : Nat) : plF sh may t (n + 1) e ≠ [] := by
 unfold plF
 split <;> exact List.cons_ne_nil _ _
end
theorem every_len (want : List UInt8) : ∀ l, (Left.every want l).length ≤ l.length
 | [] => Nat.le_refl _
 | p :: r => by
   have ih := every_len want r
   have hu : Left.every want (p :: r) = if p.2.1 = true then (match Left.look want (p :: r) with | some b => (p.1, b) :: Left.every want r | none => Left.every want r) else Left.every want r := rfl
   rw [hu]
   split
   ·split
    ·exact Nat.succ_le_succ ih
    ·exact Nat.le_succ_of_le ih
   ·exact Nat.le_succ_of_le ih
end
section
open Go.Shelf Go.RowKit Go.Lib Go.Proofs.YtmpkgddioiaonaaGreatDoor.Am
open Folds (dec dec_pos dec_le)
theorem encR_ne {r : Int} (h : isR r = true) : encR r ≠ [] := by
 rw [encR_N r h]
 unfold encN
 repeat' split
 all_goals simp
theorem wr_ne {t : List UInt8} (ht : t ≠ []) : wr 3 t ≠ [] := by
 unfold wr
 rw [Folds.wrt_step _ t ht]
 intro h
 have h1 := (List.append_eq_nil_iff.1 h).1
 unfold Folds.one at h1
 split at h1
 ·cases t with
  | nil => exact ht rfl
  | cons a b => cases h1
 ·obtain ⟨a, hR, _⟩ := form_facts _ (dec_isR t) 3 (by decide)
  dsimp only at h1
  cases hf : formV ((dec t).1 : Int) 3 with
  | nil => exact a hf
  | cons x r =>
    rw [hf] at h1 hR
    exact encR_ne (hR x List.mem_cons_self) (List.append_eq_nil_iff.1 (show encR x ++ encL r = [] from h1)).1
end
end Go.Proofs.YtmpkgddioiaonaaGreatDoor.searchLeft
