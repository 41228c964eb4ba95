/- SearchLeft, walked: grapheme.Bounds, exactly. -/
import Derived.Test.YtmpkgddioiaonaaGreatDoorFJ
import Derived.Test.YtmpkgddioiaonaaGreatDoorFK
import Derived.Test.YtmpkgddioiaonaaGreatDoorGA
import Derived.ScopeJumps
namespace Go.Proofs.YtmpkgddioiaonaaGreatDoor.searchLeft
section
open Go.Shelf Go.RowKit Go.Lib Go.Proofs.YtmpkgddioiaonaaGreatDoor.Am
def gEnds (c : Int) : Bool := c == 1 || c == 2 || c == 3
def gJoins (x y : Int) : Bool :=
 if (x == 1 && y == 2) = true then true else if (gEnds x || gEnds y) = true then false else if (y == 4 || y == 5 || y == 6 || x == 7) = true then true
 else if (x == 8) = true then (y == 8 || y == 9 || y == 11) else if (x == 9 || x == 11) = true then (y == 9 || y == 10) else (x == 10 && y == 10)
theorem gends_ok (c : Int) (W : World) : Calls Tryz.prog 73 #[.int .i64 c] W (BPost (gEnds c) W) := by
 unfold gEnds
 by_cases h1 : c = 1
 ·subst h1; go_enter Tryz.func73, Tryz.ntmps73; go_wp2; go_ret; exact ⟨rfl, rfl⟩
 ·by_cases h2 : c = 2
  ·subst h2; go_enter Tryz.func73, Tryz.ntmps73; go_wp2; go_ret; exact ⟨rfl, rfl⟩
  ·go_enter Tryz.func73, Tryz.ntmps73; go_wp2; go_ret; exact ⟨by first | rfl | simp [h1, h2], rfl⟩
set_option maxHeartbeats 4000000 in
set_option maxRecDepth 100000 in
theorem gjoins_ok (x y : Int) (W : World) : Calls Tryz.prog 48 #[.int .i64 x, .int .i64 y] W (BPost (gJoins x y) W) := by
 cases hx : gEnds x <;> cases hy : gEnds y
 all_goals
  have HX := Lib.hid hx
  have HY := Lib.hid hy
  clear hx hy
  go_enter Tryz.func48, Tryz.ntmps48
  go_wp2_with (go_at_call 73; (refine (gends_ok _ _).mono ?_; rintro e w1 ⟨rfl, rfl⟩; first | rw [HX.out] | rw [HY.out] | rw [show gEnds 1 = true from rfl] | rw [show gEnds 2 = true from rfl]))
  all_goals go_ret
  all_goals refine ⟨?_, rfl⟩
  all_goals (have hx := HX.out; have hy := HY.out; clear HX HY; unfold gJoins; simp only [gEnds] at *; simp_all)
end
section
open Go.Shelf Go.RowKit Go.Lib Go.Proofs.YtmpkgddioiaonaaGreatDoor.Am
open Folds (dec dec_pos dec_le)
/-- the text of grapheme's classes, as db hands it on -/
noncomputable def graProps : ByteArray := argOf Tryz.f46.body
/-- what props.New is to do with it -/
def NewG (w : World) : Prop := Calls Tryz.prog 40 #[.string graProps] w fun e w' => ∃ d x y, e = .returned (.tuple #[d, x, y]) ∧ DbAt w' d rangedG ∧ Below w.heap.size w w'
theorem rangedG_asc : ascR rangedG = true := by decide +kernel
set_option maxRecDepth 100000 in
set_option maxHeartbeats 2000000 in
theorem gdb_ok (W : World) (hN : NewG W) : Calls Tryz.prog 46 #[] W fun e w' => ∃ d, e = .returned d ∧ DbAt w' d rangedG ∧ Below W.heap.size W w' := by
 have HN := Lib.hid hN; clear hN
 go_enter Tryz.func46, Tryz.ntmps46
 go_wp2_with (go_at_call 40; refine HN.out.mono ?_; rintro e w1 ⟨d, x, y, rfl, hd, hb⟩; have HD := Lib.hid hd; have HB := Lib.hid hb; clear hd hb)
 go_ret
 exact ⟨_, rfl, HD.out, HB.out⟩
def gclsF (t : List UInt8) : List Int := (marks t).map fun x => clsOf rangedG (runeOr (x.2 : Int))
/-- the loop's state: the text's iterator, the row of classes -/
structure OL (W : World) (s : ByteArray) (e m : Nat) (v : Value) (zs : List Int) (w : World) : Prop where
 bel : Below W.heap.size W w
 it : w.heap[W.heap.size]? = some (.stringIter s e)
 own : w.ownsRow W.heap.size 3 1 v m (intsW zs)
section
variable {W w w' : World} {s : ByteArray} {e m : Nat} {v : Value} {zs : List Int}
theorem OL.below (h : OL W s e m v zs w) (hb : Below w.heap.size w w') : OL W s e m v zs w' :=
 ⟨h.bel.trans (hb.mono h.bel.size), below_blk hb h.it, own_below hb h.own⟩
theorem OL.alloc (h : OL W s e m v zs w) (o : Obj) : OL W s e m v zs (w.alloc o) := h.below ((Below.refl _ w).alloc (Nat.le_refl _) o)
theorem OL.alloc1 (h : OL W s e m v zs w) {o : Obj} : (w.alloc o).ownsRow W.heap.size 3 1 v m (intsW zs) := (h.alloc o).own
theorem OL.iter (h : OL W s e m v zs w) (e' : Nat) : OL W s e' m v zs (w.iterAt W.heap.size s e') :=
 ⟨below_iterAt h.bel (Nat.le_refl _) s e', iterAt_heap w _ s e e' h.it, own_iterAt h.it h.own⟩
theorem OL.grow (h : OL W s e m v zs w) {o : Obj} {v' : Value} {x : Int} (ho : w'.ownsRow W.heap.size 3 1 v' (m + 1) (intsW zs ++ [.int .i64 x])) (hg : (w.alloc o).grownBy w' v.ownBlock) : OL W s e (m + 1) v' (zs ++ [x]) w' := by
 have h' := h.alloc o
 refine ⟨h'.bel.grown hg h'.bel.size (fun k hk => (own_lt h'.own hk).1), ?_, by rw [intsW_app]; exact ho⟩
 rw [hg.block _ (heap_lt h'.it) (own_ne h'.own h'.it (fun _ h => by cases h))]; exact h'.it
end
def OfPost (zs : List Int) (W : World) (e : Ending) (w' : World) : Prop := ∃ A n c, e = .returned (.slice A n c) ∧ IntsR w' A n zs ∧ Below W.heap.size W w'
set_option maxRecDepth 100000 in
set_option maxHeartbeats 4000000 in
theorem gof_ok (t : List UInt8) (d : Value) (W : World) (hD : DbAt W d rangedG) (hn : t.length ≤ 10000) : Calls Tryz.prog 47 #[d, .string ⟨t.toArray⟩] W (OfPost (gclsF t) W) := by
 obtain ⟨s, hs⟩ : ∃ s : ByteArray, (⟨t.toArray⟩ : ByteArray) = s := ⟨_, rfl⟩
 have hss : s.size = t.length := size_mk t s hs
 rw [hs]
 have HS := Lib.hid hs; have HSS := Lib.hid hss; have HLT := Lib.hid hn; have HD := Lib.hid hD
 obtain ⟨D, oD, R, oR, cD, rfl, _, _, _⟩ := hD
 clear hs hss hn
 obtain ⟨i0, hI0, hz0, hz1, hz2⟩ := info_parts int_info
 go_enter Tryz.func47, Tryz.ntmps47
 go_wp2_with fail
 go_loopw [5] (fun vo wr => ∃ (e f m : Nat) (A : Option Addr) (c : Nat) (zs : List Int), vo = .slice A m c ∧ OL W s e m (.slice A m c) zs wr ∧ e ≤ s.size ∧ s.size < f + e + 1 ∧ m ≤ e ∧ zs ++ (marksFrom t f e).map (fun x => clsOf rangedG (runeOr (x.2 : Int))) = gclsF t) (fun _ wr => s.size - wr.iterPos W.heap.size)
 case atStart =>
  exact ⟨0, t.length, 0, none, 0, [], rfl, ⟨(Below.refl _ W).alloc (Nat.le_refl _) _, heap_alloc_new W _, ⟨rfl, .inl ⟨rfl, rfl⟩⟩⟩, Nat.zero_le _, by have := HSS.out; omega, Nat.le_refl _, rfl⟩
 case round =>
  obtain ⟨e, f, m, A, c, zs, rfl, hOL, he, hf, hm, hl⟩ := hrel
  have hit := hOL.it
  have HOL := Lib.hid hOL; clear hOL
  by_cases hlt : e < s.size
  ·obtain ⟨f', rfl⟩ : ∃ f', f = f' + 1 := ⟨f - 1, by omega⟩
   have hlt2 : e < t.length := by have := HSS.out; omega
   unfold marksFrom at hl
   rw [if_pos hlt2, List.map_cons] at hl
   dsimp only at hl
   have hnx := fun ty => run_next_any_at (P := Tryz.prog) wr _ s e ty hit hlt
   rw [decode_drop t e s HS.out] at hnx
   have hne2 : t.drop e ≠ [] := by intro c; rw [List.drop_eq_nil_iff] at c; have := HSS.out; omega
   have hd1 := dec_pos (t.drop e)
   have hd2 := dec_le (t.drop e) hne2
   rw [List.length_drop, ← HSS.out] at hd2
   obtain ⟨r, hr⟩ : ∃ r : Int, ((dec (t.drop e)).1 : Int) = r := ⟨_, rfl⟩
   obtain ⟨wd, hwd⟩ : ∃ wd, (dec (t.drop e)).2 = wd := ⟨_, rfl⟩
   rw [hwd] at hd1 hd2 hl
   rw [hr] at hl
   rw [hr, hwd] at hnx
   obtain ⟨ew, hew⟩ : ∃ ew, e + wd = ew := ⟨_, rfl⟩
   rw [hew] at hnx hl
   obtain ⟨cx, hcx⟩ : ∃ cx, clsOf rangedG (runeOr r) = cx := ⟨_, rfl⟩
   rw [hcx] at hl
   have HCX := Lib.hid hcx
   have HL := Lib.hid hl
   clear hr hwd hcx hl hlt2 hne2
   have HLEN := Lib.hid (LEN8 hm he (by rw [HSS.out]; exact HLT.out))
   have HSI := Lib.hid (HOL.out.iter ew)
   have hq2 : wr.iterPos W.heap.size = e := by unfold World.iterPos; rw [hit]
   have KEY := Lib.hid (fun (B1 : Option Addr) (d1 : Nat) (w' : World) (h : OL W s ew (m + 1) (.slice B1 (m + 1) d1) (zs ++ [cx]) w') =>
    show (∃ (e' f m' : Nat) (A : Option Addr) (c : Nat) (zs' : List Int), Value.slice B1 (m + 1) d1 = .slice A m' c ∧ OL W s e' m' (.slice A m' c) zs' w' ∧ e' ≤ s.size ∧ s.size < f + e' + 1 ∧ m' ≤ e' ∧ zs' ++ (marksFrom t f e').map (fun x => clsOf rangedG (runeOr (x.2 : Int))) = gclsF t) ∧ s.size - w'.iterPos W.heap.size < s.size - wr.iterPos W.heap.size from by
     refine ⟨⟨ew, f', m + 1, B1, d1, _, rfl, h, by omega, by omega, by omega, by rw [List.append_assoc]; exact HL.out⟩, ?_⟩
     have q1 : w'.iterPos W.heap.size = ew := by unfold World.iterPos; rw [h.it]
     rw [q1, hq2]; omega)
   clear hew hd1 hd2 hf hm he hq2 hlt
   go_wp2_with (first | (go_at_call 72; refine (Get_ok rangedG rangedG_asc r _ _ rfl (by decide +kernel) _ (dbAt_below HD.out HSI.out.bel)).mono ?_; rintro x wz ⟨rfl, hbz⟩; rw [HCX.out]; have HSZ := Lib.hid (HSI.out.below hbz); clear hbz) | (at_builtin; refine wpList_app _ rfl (.tmp 15) (.tmp 19) 36 rfl W.heap.size 3 i0 _ 8 Tryz.underlying36 hI0 hz0 hz1 hz2 rfl (.slice A m c) m (intsW zs) rfl HSZ.out.alloc1 _ 1 1 [.int .i64 cx] rfl (src_one _ _ _) (by simp [Value.oneCell']) HLEN.out.1 HLEN.out.2 (by rw [World.size_alloc]; have := HSZ.out.bel.size; omega) ?_; intro v' wp ho hg hn; obtain ⟨B1, d1, rfl, _⟩ := own_slice3 ho; have HSP := Lib.hid (HSZ.out.grow ho hg); clear ho hg hn hnx hit))
   exact KEY.out _ _ _ HSP.out
  ·obtain rfl : e = s.size := by omega
   have hz : marksFrom t f s.size = [] := by
    cases f with
    | zero => rfl
    | succ f => unfold marksFrom; rw [if_neg (by have := HSS.out; omega)]
   rw [hz, List.map_nil, List.append_nil] at hl
   clear hz
   have hnx := fun ty => run_next_end_at (P := Tryz.prog) wr _ s s.size ty hit hlt
   have hmm : m ≤ 100000 := by have := HSS.out; have := HLT.out; omega
   have HM := Lib.hid hmm
   have HL := Lib.hid hl
   clear hf he hm hmm hl hlt
   go_wp2_with fail
   go_ret
   exact ⟨A, m, c, rfl, by rw [← HL.out]; exact ints_own HOL.out.own HM.out, HOL.out.bel⟩
end
section
open Go.Shelf Go.RowKit Go.Lib Go.Proofs.YtmpkgddioiaonaaGreatDoor.Am
open Folds (dec dec_pos dec_le)
section
variable {Q : Exit → Act → World → Prop} {J : Act → World → Prop} {a : Act} {w : World} {l : Nat}
@[go_sem] theorem jump_normal : Exit.jump l J Q .normal a w = Q .normal a w := rfl
@[go_sem] theorem jump_exit (id : Nat) : Exit.jump l J Q (.exit id) a w = Q (.exit id) a w := rfl
@[go_sem] theorem jump_ret : Exit.jump l J Q .ret a w = Q .ret a w := rfl
@[go_sem] theorem jump_panic (ch : List PanicEntry) : Exit.jump l J Q (.panic ch) a w = Q (.panic ch) a w := rfl
end
/-- a scope whose gotos all lead ahead, to one label: at each of them the walk goes on behind the label -/
theorem wp_scope_ahead {P : Program} {a : Act} {w : World} {Q : Exit → Act → World → Prop} {c rest : Code} (l : Nat) (hf : findLabel c l = some rest)
 (h : c.wp P (Exit.jump l (fun a w => rest.wp P (Exit.noGoto Q) a w) Q) a w) : (Code.scope c).wp P Q a w := by
 refine wp_scope_jumps l (fun a w => rest.wp P (Exit.noGoto Q) a w) (fun _ _ => 0) hf h (fun a w hJ => wp_mono hJ ?_)
 intro e a w hq
 cases e with
 | goto l' => exact hq.elim
 | _ => exact hq
/-- the bounds of graphemes: what is left of the text's runes, the rune's number, picture, joined, flags -/
def gbF (cls : List Int) : List (Nat × Nat) → Nat → Bool → Bool → Nat → List Int
 | [], _, _, _, _ => []
 | x :: r, k, p, j, fl =>
   let y := cls.getD k 0
   let rest := gbF cls r (k + 1) (y == 12 || (p && y == 4)) (p && y == 5) (if y = 13 then fl + 1 else 0)
   if k = 0 ∨ gJoins (cls.getD (k - 1) 0) y = true ∨ (j = true ∧ y = 12) ∨ (y = 13 ∧ fl % 2 = 1) then rest else (x.1 : Int) :: rest
def graB (t : List UInt8) : List Int := if t = [] then [] else 0 :: gbF (gclsF t) (marks t) 0 false false 0 ++ [(t.length : Int)]
/-- the loop's state: the text's iterator, the row of bounds -/
structure GL (w2 : World) (s : ByteArray) (e m : Nat) (v : Value) (zs : List Int) (w : World) : Prop where
 bel : Below w2.heap.size w2 w
 it : w.heap[w2.heap.size + 1]? = some (.stringIter s e)
 own : w.ownsRow w2.heap.size 3 1 v m (intsW zs)
section
variable {W w w' : World} {s : ByteArray} {e m : Nat} {v : Value} {zs : List Int}
theorem GL.below (h : GL W s e m v zs w) (hb : Below w.heap.size w w') : GL W s e m v zs w' :=
 ⟨h.bel.trans (hb.mono h.bel.size), below_blk hb h.it, own_below hb h.own⟩
theorem GL.alloc (h : GL W s e m v zs w) (o : Obj) : GL W s e m v zs (w.alloc o) := h.below ((Below.refl _ w).alloc (Nat.le_refl _) o)
theorem GL.alloc1 (h : GL W s e m v zs w) {o : Obj} : (w.alloc o).ownsRow W.heap.size 3 1 v m (intsW zs) := (h.alloc o).own
theorem GL.iter (h : GL W s e m v zs w) (e' : Nat) : GL W s e' m v zs (w.iterAt (W.heap.size + 1) s e') :=
 ⟨below_iterAt h.bel (Nat.le_succ _) s e', iterAt_heap w _ s e e' h.it, own_iterAt h.it h.own⟩
theorem GL.grow (h : GL W s e m v zs w) {o : Obj} {v' : Value} {x : Int} (ho : w'.ownsRow W.heap.size 3 1 v' (m + 1) (intsW zs ++ [.int .i64 x])) (hg : (w.alloc o).grownBy w' v.ownBlock) : GL W s e (m + 1) v' (zs ++ [x]) w' := by
 have h' := h.alloc o
 refine ⟨h'.bel.grown hg h'.bel.size (fun k hk => (own_lt h'.own hk).1), ?_, by rw [intsW_app]; exact ho⟩
 rw [hg.block _ (heap_lt h'.it) (own_ne h'.own h'.it (fun _ h => by cases h))]; exact h'.it
theorem GL.start (W : World) (s : ByteArray) : GL W s 0 1 (.slice (some ⟨W.heap.size, 0, none⟩) 1 1) [0] ((W.alloc (.cells #[.int .i64 0] 3)).alloc (.stringIter s 0)) := by
 refine ⟨((Below.refl _ W).alloc (Nat.le_refl _) _).alloc (by simp) _, ?_, ⟨rfl, .inr ⟨W.heap.size, 1, #[.int .i64 0], rfl, Nat.le_refl _, ?_, Nat.le_refl _, by decide, rfl, rfl⟩⟩⟩
 ·have := heap_alloc_new (W.alloc (.cells #[.int .i64 0] 3)) (.stringIter s 0)
  rw [World.size_alloc] at this
  exact this
 ·exact (Below.heap_alloc _ _ _ (by simp)).trans (heap_alloc_new _ _)
end
end
section
open Go.Shelf Go.RowKit Go.Lib Go.Proofs.YtmpkgddioiaonaaGreatDoor.Am
open Folds (dec dec_pos dec_le)
theorem ycase (y : Int) : y = 12 ∨ y = 13 ∨ y = 4 ∨ y = 5 ∨ (¬ y = 12 ∧ ¬ y = 13 ∧ ¬ y = 4 ∧ ¬ y = 5) := by omega
set_option maxRecDepth 100000 in
set_option maxHeartbeats 8000000 in
theorem graB_ok (t : List UInt8) (W : World) (hN : ∀ w, Below W.heap.size W w → NewG w) (hn : t.length ≤ 10000) : Calls Tryz.prog 24 #[.string ⟨t.toArray⟩] W (IntsPost (graB t) W) := by
 obtain ⟨s, hs⟩ : ∃ s : ByteArray, (⟨t.toArray⟩ : ByteArray) = s := ⟨_, rfl⟩
 have hss : s.size = t.length := size_mk t s hs
 have HGB := Lib.hid (gdb_ok W (hN W (Below.refl _ W)))
 have HOF := Lib.hid (fun d w (hd : DbAt w d rangedG) => gof_ok t d w hd hn)
 rw [hs] at HOF ⊢
 have HS := Lib.hid hs; have HSS := Lib.hid hss; have HLT := Lib.hid hn
 clear hs hss hn hN
 obtain ⟨i0, hI0, hz0, hz1, hz2⟩ := info_parts int_info
 by_cases ht : t = []
 ·have hse : (s == ⟨#[]⟩) = true := by rw [← HS.out, ht]; rfl
  obtain rfl : s = ⟨#[]⟩ := by rw [← HS.out, ht]
  subst ht
  go_enter Tryz.func24, Tryz.ntmps24
  go_wp2_with fail
  go_ret
  exact ⟨none, 0, 0, rfl, ⟨rfl, by decide, fun h => absurd h (by decide)⟩, Below.refl _ _⟩
 have hse : s.toList.isEmpty = false := by
  rw [← HS.out, ByteArray.toList_mk]
  cases t with
  | nil => exact absurd rfl ht
  | cons a b => rfl
 have HT := Lib.hid ht; clear ht
 go_enter Tryz.func24, Tryz.ntmps24
 go_wp2_with (first | (go_at_call 46; refine HGB.out.mono ?_; rintro e w1 ⟨d, rfl, hd, hb1⟩; have HD := Lib.hid hd; have HB1 := Lib.hid hb1; clear hd hb1) | (go_at_call 47; refine (HOF.out _ _ HD.out).mono ?_; rintro e w2 ⟨A, n, c, rfl, hi, hb2⟩; have HI := Lib.hid hi; have HB2 := Lib.hid (HB1.out.trans (hb2.mono HB1.out.size)); clear hi hb2))
 obtain ⟨cls, hcls⟩ : ∃ l, gclsF t = l := ⟨_, rfl⟩
 obtain ⟨Z, hZ⟩ : ∃ Z, 0 :: gbF cls (marks t) 0 false false 0 = Z := ⟨_, rfl⟩
 have hml : (marks t).length = n := by rw [← HI.out.len]; unfold gclsF; rw [List.length_map]
 have HWB := Lib.hid (show graB t = Z ++ [(t.length : Int)] by unfold graB; rw [if_neg HT.out, hcls, ← hZ])
 rw [hcls] at HI
 have HZ := Lib.hid hZ
 have HML := Lib.hid hml
 have hsm := HI.out.small
 have HSM := Lib.hid hsm
 clear hcls hZ hml hsm HGB HOF HD HB1 hse
 go_loopw [4, 5, 6, 7, 8] (fun vl vi vp vj vf wr => ∃ (e f k mo fl : Nat) (Al : Option Addr) (co : Nat) (zs : List Int) (i : Int) (p j : Bool), vl = .slice Al mo co ∧ vi = .int .i64 i ∧ i + 1 = (k : Int) ∧ vp = .bool p ∧ vj = .bool j ∧ vf = .int .i64 fl ∧ GL w2 s e mo (.slice Al mo co) zs wr ∧ e ≤ s.size ∧ s.size < f + e + 1 ∧ mo ≤ k + 1 ∧ fl ≤ k ∧ k ≤ e ∧ k + (marksFrom t f e).length = n ∧ zs ++ gbF cls (marksFrom t f e) k p j fl = Z) (fun _ _ _ _ _ wr => s.size - wr.iterPos (w2.heap.size + 1))
 case atStart =>
  exact ⟨0, t.length, 0, 1, 0, _, _, [0], -1, false, false, rfl, rfl, rfl, rfl, rfl, rfl, GL.start w2 s, Nat.zero_le _, by have := HSS.out; omega, Nat.le_refl _, Nat.le_refl _, Nat.le_refl _, by rw [Nat.zero_add]; exact HML.out, HZ.out⟩
 case round =>
  obtain ⟨e, f, k, mo, fl, Al, co, zs, i, p, j, rfl, rfl, hik, rfl, rfl, rfl, hGL, he, hf, hmo, hfl, hke, hkn, hl⟩ := hrel
  have hit := hGL.it
  have HGL := Lib.hid hGL; clear hGL
  by_cases hlt : e < s.size
  ·obtain ⟨f', rfl⟩ : ∃ f', f = f' + 1 := ⟨f - 1, by omega⟩
   have hlt2 : e < t.length := by have := HSS.out; omega
   unfold marksFrom at hl hkn
   rw [if_pos hlt2] at hl hkn
   rw [List.length_cons] at hkn
   have hnx := fun ty => run_next_any_at (P := Tryz.prog) wr _ s e ty hit hlt
   rw [decode_drop t e s HS.out] at hnx
   have hne2 : t.drop e ≠ [] := by intro c; rw [List.drop_eq_nil_iff] at c; have := HSS.out; omega
   have hd1 := dec_pos (t.drop e)
   have hd2 := dec_le (t.drop e) hne2
   rw [List.length_drop, ← HSS.out] at hd2
   obtain ⟨r0, hr0⟩ : ∃ r0, (dec (t.drop e)).1 = r0 := ⟨_, rfl⟩
   rw [hr0] at hl hnx
   clear hr0
   obtain ⟨r, hr⟩ : ∃ r : Int, (r0 : Int) = r := ⟨_, rfl⟩
   obtain ⟨wd, hwd⟩ : ∃ wd, (dec (t.drop e)).2 = wd := ⟨_, rfl⟩
   rw [hwd] at hd1 hd2 hl hnx hkn
   clear hwd
   rw [hr] at hnx
   clear hr
   obtain ⟨ew, hew⟩ : ∃ ew, e + wd = ew := ⟨_, rfl⟩
   rw [hew] at hnx hl hkn
   obtain ⟨g1, o1, rfl, hg1, hc1⟩ := HI.out.at_ (by omega)
   have hkl : k < n := by omega
   have HSI := Lib.hid (HGL.out.iter ew)
   have hcy := (HSI.out.bel.cell (p := ⟨g1, o1 + k, none⟩) hg1).trans (hc1 k hkl)
   have hcx : ∀ k1, k1 < n → (wr.iterAt (w2.heap.size + 1) s ew).cell? ⟨g1, o1 + k1, none⟩ = some (.int .i64 (cls.getD k1 0)) := fun k1 h => (HSI.out.bel.cell (p := ⟨g1, o1 + k1, none⟩) hg1).trans (hc1 k1 h)
   have HCX := Lib.hid hcx; clear hcx hc1 hg1
   unfold gbF at hl
   dsimp only at hl
   obtain ⟨y, hy⟩ : ∃ y, cls.getD k 0 = y := ⟨_, rfl⟩
   rw [hy] at hl hcy
   clear hy
   have HLEN : Hid (mo + 1 ≤ maxLen ∧ (mo + 1) * 8 ≤ 140737488355328) := Lib.hid (by have := HSM.out; exact ⟨by simp only [maxLen]; omega, by omega⟩)
   have hq2 : wr.iterPos (w2.heap.size + 1) = e := by unfold World.iterPos; rw [hit]
   have HKS := Lib.hid (show k ≤ 100000 by have := HSM.out; omega)
   have REL := Lib.hid (fun (Al' : Option Addr) (co' mo' fl' : Nat) (zs' : List Int) (p' j' : Bool) (w' : World) (hm' : mo' ≤ k + 1 + 1) (hf' : fl' ≤ k + 1) (hz' : zs' ++ gbF cls (marksFrom t f' ew) (k + 1) p' j' fl' = Z) (h : GL w2 s ew mo' (.slice Al' mo' co') zs' w') =>
    show (∃ (e f k' mo fl : Nat) (Al : Option Addr) (co : Nat) (zs : List Int) (i : Int) (p j : Bool), Value.slice Al' mo' co' = .slice Al mo co ∧ Value.int .i64 (k : Int) = .int .i64 i ∧ i + 1 = (k' : Int) ∧ Value.bool p' = .bool p ∧ Value.bool j' = .bool j ∧ Value.int .i64 (fl' : Int) = .int .i64 fl ∧ GL w2 s e mo (.slice Al mo co) zs w' ∧ e ≤ s.size ∧ s.size < f + e + 1 ∧ mo ≤ k' + 1 ∧ fl ≤ k' ∧ k' ≤ e ∧ k' + (marksFrom t f e).length = n ∧ zs ++ gbF cls (marksFrom t f e) k' p j fl = Z) ∧ s.size - w'.iterPos (w2.heap.size + 1) < s.size - wr.iterPos (w2.heap.size + 1) from by
     refine ⟨⟨ew, f', k + 1, mo', fl', Al', co', zs', (k : Int), p', j', rfl, rfl, by omega, rfl, rfl, rfl, h, by omega, by omega, hm', hf', by omega, by omega, hz'⟩, ?_⟩
     have q1 : w'.iterPos (w2.heap.size + 1) = ew := by unfold World.iterPos; rw [h.it]
     rw [q1, hq2]; omega)
   have hwi : wrap64 (i + 1) = (k : Int) := by have := HKS.out; unfold wrap64; omega
   have HFL := Lib.hid (show wrap64 ((fl : Int) + 1) = ((fl + 1 : Nat) : Int) by have := HKS.out; unfold wrap64; omega)
   have hk0n : (0 : Int) ≤ k := by omega
   have hkln : (k : Int) < n := by omega
   have HM2 := Lib.hid (show mo ≤ k + 1 + 1 by omega)
   have HM1 := Lib.hid (show mo + 1 ≤ k + 1 + 1 by omega)
   have HF1 := Lib.hid (show fl + 1 ≤ k + 1 by omega)
   have HL := Lib.hid hl
   clear hl hew hd1 hd2 hf he hq2 hlt hkn hmo hfl hke hne2 hlt2 hik
   rcases Nat.eq_zero_or_pos k with hkz | hkz
   ·have hk0 : ((k : Int) == 0) = true := by simp [hkz]
    have hl := HL.out
    rw [if_pos (Or.inl hkz)] at hl
    have HLK := Lib.hid hl
    have hk1 : (k : Int) = 0 := by omega
    have HK1 := Lib.hid hk1
    clear hl HL hkz hk1
    rcases ycase y with rfl | rfl | rfl | rfl | ⟨y12, y13, y4, y5⟩
    ·skip
     go_wp2_with fail
     refine wp_scope_ahead 0 rfl ?_
     go_wp2_with fail
     go_step3
     refine And.intro rfl ?_
     show Code.wp _ _ _ _ _
     cases p
     case false =>
      have hl2 : zs ++ gbF cls (marksFrom t f' ew) (k + 1) true false 0 = Z := by have h := HLK.out; exact h
      have HL2 := Lib.hid hl2; clear hl2
      go_wp2_with fail
      first | rw [Exit.noGoto_normal] | rw [jump_normal]
      go_wp2_with fail
      try rw [hwi]
      exact REL.out _ _ mo 0 _ _ _ _ HM2.out (Nat.zero_le _) HL2.out HSI.out
     case true =>
      have hl2 : zs ++ gbF cls (marksFrom t f' ew) (k + 1) true false 0 = Z := by have h := HLK.out; exact h
      have HL2 := Lib.hid hl2; clear hl2
      go_wp2_with fail
      first | rw [Exit.noGoto_normal] | rw [jump_normal]
      go_wp2_with fail
      try rw [hwi]
      exact REL.out _ _ mo 0 _ _ _ _ HM2.out (Nat.zero_le _) HL2.out HSI.out
    ·skip
     go_wp2_with fail
     refine wp_scope_ahead 0 rfl ?_
     go_wp2_with fail
     go_step3
     refine And.intro rfl ?_
     show Code.wp _ _ _ _ _
     cases p
     case false =>
      have hl2 : zs ++ gbF cls (marksFrom t f' ew) (k + 1) false false (fl + 1) = Z := by have h := HLK.out; exact h
      have HL2 := Lib.hid hl2; clear hl2
      go_wp2_with fail
      first | rw [Exit.noGoto_normal] | rw [jump_normal]
      go_wp2_with fail
      try rw [hwi]
      rw [HFL.out]
      exact REL.out _ _ mo (fl + 1) _ _ _ _ HM2.out HF1.out HL2.out HSI.out
     case true =>
      have hl2 : zs ++ gbF cls (marksFrom t f' ew) (k + 1) false false (fl + 1) = Z := by have h := HLK.out; exact h
      have HL2 := Lib.hid hl2; clear hl2
      go_wp2_with fail
      first | rw [Exit.noGoto_normal] | rw [jump_normal]
      go_wp2_with fail
      try rw [hwi]
      rw [HFL.out]
      exact REL.out _ _ mo (fl + 1) _ _ _ _ HM2.out HF1.out HL2.out HSI.out
    ·skip
     go_wp2_with fail
     refine wp_scope_ahead 0 rfl ?_
     go_wp2_with fail
     go_step3
     refine And.intro rfl ?_
     show Code.wp _ _ _ _ _
     cases p
     case false =>
      have hl2 : zs ++ gbF cls (marksFrom t f' ew) (k + 1) false false 0 = Z := by have h := HLK.out; exact h
      have HL2 := Lib.hid hl2; clear hl2
      go_wp2_with fail
      first | rw [Exit.noGoto_normal] | rw [jump_normal]
      go_wp2_with fail
      try rw [hwi]
      exact REL.out _ _ mo 0 _ _ _ _ HM2.out (Nat.zero_le _) HL2.out HSI.out
     case true =>
      have hl2 : zs ++ gbF cls (marksFrom t f' ew) (k + 1) true false 0 = Z := by have h := HLK.out; exact h
      have HL2 := Lib.hid hl2; clear hl2
      go_wp2_with fail
      first | rw [Exit.noGoto_normal] | rw [jump_normal]
      go_wp2_with fail
      try rw [hwi]
      exact REL.out _ _ mo 0 _ _ _ _ HM2.out (Nat.zero_le _) HL2.out HSI.out
    ·skip
     go_wp2_with fail
     refine wp_scope_ahead 0 rfl ?_
     go_wp2_with fail
     go_step3
     refine And.intro rfl ?_
     show Code.wp _ _ _ _ _
     cases p
     case false =>
      have hl2 : zs ++ gbF cls (marksFrom t f' ew) (k + 1) false false 0 = Z := by have h := HLK.out; exact h
      have HL2 := Lib.hid hl2; clear hl2
      go_wp2_with fail
      first | rw [Exit.noGoto_normal] | rw [jump_normal]
      go_wp2_with fail
      try rw [hwi]
      exact REL.out _ _ mo 0 _ _ _ _ HM2.out (Nat.zero_le _) HL2.out HSI.out
     case true =>
      have hl2 : zs ++ gbF cls (marksFrom t f' ew) (k + 1) false true 0 = Z := by have h := HLK.out; exact h
      have HL2 := Lib.hid hl2; clear hl2
      go_wp2_with fail
      first | rw [Exit.noGoto_normal] | rw [jump_normal]
      go_wp2_with fail
      try rw [hwi]
      exact REL.out _ _ mo 0 _ _ _ _ HM2.out (Nat.zero_le _) HL2.out HSI.out
    ·skip
     have z12 : (y == 12) = false := beq_eq_false_iff_ne.2 y12
     have z13 : (y == 13) = false := beq_eq_false_iff_ne.2 y13
     have z4 : (y == 4) = false := beq_eq_false_iff_ne.2 y4
     have z5 : (y == 5) = false := beq_eq_false_iff_ne.2 y5
     go_wp2_with fail
     refine wp_scope_ahead 0 rfl ?_
     go_wp2_with fail
     go_step3
     refine And.intro rfl ?_
     show Code.wp _ _ _ _ _
     cases p
     case false =>
      have hl2 : zs ++ gbF cls (marksFrom t f' ew) (k + 1) false false 0 = Z := by have h := HLK.out; simpa [y12, y13, y4, y5, z12, z4, z5] using h
      have HL2 := Lib.hid hl2; clear hl2
      go_wp2_with fail
      first | rw [Exit.noGoto_normal] | rw [jump_normal]
      go_wp2_with fail
      try rw [hwi]
      exact REL.out _ _ mo 0 _ _ _ _ HM2.out (Nat.zero_le _) HL2.out HSI.out
     case true =>
      have hl2 : zs ++ gbF cls (marksFrom t f' ew) (k + 1) false false 0 = Z := by have h := HLK.out; simpa [y12, y13, y4, y5, z12, z4, z5] using h
      have HL2 := Lib.hid hl2; clear hl2
      go_wp2_with fail
      first | rw [Exit.noGoto_normal] | rw [jump_normal]
      go_wp2_with fail
      try rw [hwi]
      exact REL.out _ _ mo 0 _ _ _ _ HM2.out (Nat.zero_le _) HL2.out HSI.out
   ·have hk0 : ((k : Int) == 0) = false := by simp; omega
    have hk1 : ¬ (k : Int) = 0 := by omega
    obtain ⟨k1, hk1e⟩ : ∃ k1, k - 1 = k1 := ⟨_, rfl⟩
    have hwk : wrap64 ((k : Int) - 1) = (k1 : Int) := by have := HKS.out; unfold wrap64; omega
    have hq0 : (0 : Int) ≤ k1 := by omega
    have hq1 : (k1 : Int) < n := by omega
    have hcxx := HCX.out k1 (by omega)
    have hl := HL.out
    rw [hk1e] at hl
    obtain ⟨x, hx⟩ : ∃ x, cls.getD k1 0 = x := ⟨_, rfl⟩
    rw [hx] at hl hcxx
    have HKP := Lib.hid hkz
    have HL3 := Lib.hid hl
    clear hl HL hx hkz hk1e
    cases hgj : gJoins x y
    case true =>
     have hl := HL3.out
     rw [if_pos (Or.inr (Or.inl hgj))] at hl
     have HLK := Lib.hid hl
     have HGJ := Lib.hid hgj
     clear hl hgj
     rcases ycase y with rfl | rfl | rfl | rfl | ⟨y12, y13, y4, y5⟩
     ·skip
      go_wp2_with fail
      refine wp_scope_ahead 0 rfl ?_
      go_wp2_with (go_at_call 48; refine (gjoins_ok _ _ _).mono ?_; rintro e' w1 ⟨rfl, rfl⟩; rw [HGJ.out])
      go_step3
      refine And.intro rfl ?_
      show Code.wp _ _ _ _ _
      cases p
      case false =>
       have hl2 : zs ++ gbF cls (marksFrom t f' ew) (k + 1) true false 0 = Z := by have h := HLK.out; exact h
       have HL2 := Lib.hid hl2; clear hl2
       go_wp2_with fail
       first | rw [Exit.noGoto_normal] | rw [jump_normal]
       go_wp2_with fail
       try rw [hwi]
       exact REL.out _ _ mo 0 _ _ _ _ HM2.out (Nat.zero_le _) HL2.out HSI.out
      case true =>
       have hl2 : zs ++ gbF cls (marksFrom t f' ew) (k + 1) true false 0 = Z := by have h := HLK.out; exact h
       have HL2 := Lib.hid hl2; clear hl2
       go_wp2_with fail
       first | rw [Exit.noGoto_normal] | rw [jump_normal]
       go_wp2_with fail
       try rw [hwi]
       exact REL.out _ _ mo 0 _ _ _ _ HM2.out (Nat.zero_le _) HL2.out HSI.out
     ·skip
      go_wp2_with fail
      refine wp_scope_ahead 0 rfl ?_
      go_wp2_with (go_at_call 48; refine (gjoins_ok _ _ _).mono ?_; rintro e' w1 ⟨rfl, rfl⟩; rw [HGJ.out])
      go_step3
      refine And.intro rfl ?_
      show Code.wp _ _ _ _ _
      cases p
      case false =>
       have hl2 : zs ++ gbF cls (marksFrom t f' ew) (k + 1) false false (fl + 1) = Z := by have h := HLK.out; exact h
       have HL2 := Lib.hid hl2; clear hl2
       go_wp2_with fail
       first | rw [Exit.noGoto_normal] | rw [jump_normal]
       go_wp2_with fail
       try rw [hwi]
       rw [HFL.out]
       exact REL.out _ _ mo (fl + 1) _ _ _ _ HM2.out HF1.out HL2.out HSI.out
      case true =>
       have hl2 : zs ++ gbF cls (marksFrom t f' ew) (k + 1) false false (fl + 1) = Z := by have h := HLK.out; exact h
       have HL2 := Lib.hid hl2; clear hl2
       go_wp2_with fail
       first | rw [Exit.noGoto_normal] | rw [jump_normal]
       go_wp2_with fail
       try rw [hwi]
       rw [HFL.out]
       exact REL.out _ _ mo (fl + 1) _ _ _ _ HM2.out HF1.out HL2.out HSI.out
     ·skip
      go_wp2_with fail
      refine wp_scope_ahead 0 rfl ?_
      go_wp2_with (go_at_call 48; refine (gjoins_ok _ _ _).mono ?_; rintro e' w1 ⟨rfl, rfl⟩; rw [HGJ.out])
      go_step3
      refine And.intro rfl ?_
      show Code.wp _ _ _ _ _
      cases p
      case false =>
       have hl2 : zs ++ gbF cls (marksFrom t f' ew) (k + 1) false false 0 = Z := by have h := HLK.out; exact h
       have HL2 := Lib.hid hl2; clear hl2
       go_wp2_with fail
       first | rw [Exit.noGoto_normal] | rw [jump_normal]
       go_wp2_with fail
       try rw [hwi]
       exact REL.out _ _ mo 0 _ _ _ _ HM2.out (Nat.zero_le _) HL2.out HSI.out
      case true =>
       have hl2 : zs ++ gbF cls (marksFrom t f' ew) (k + 1) true false 0 = Z := by have h := HLK.out; exact h
       have HL2 := Lib.hid hl2; clear hl2
       go_wp2_with fail
       first | rw [Exit.noGoto_normal] | rw [jump_normal]
       go_wp2_with fail
       try rw [hwi]
       exact REL.out _ _ mo 0 _ _ _ _ HM2.out (Nat.zero_le _) HL2.out HSI.out
     ·skip
      go_wp2_with fail
      refine wp_scope_ahead 0 rfl ?_
      go_wp2_with (go_at_call 48; refine (gjoins_ok _ _ _).mono ?_; rintro e' w1 ⟨rfl, rfl⟩; rw [HGJ.out])
      go_step3
      refine And.intro rfl ?_
      show Code.wp _ _ _ _ _
      cases p
      case false =>
       have hl2 : zs ++ gbF cls (marksFrom t f' ew) (k + 1) false false 0 = Z := by have h := HLK.out; exact h
       have HL2 := Lib.hid hl2; clear hl2
       go_wp2_with fail
       first | rw [Exit.noGoto_normal] | rw [jump_normal]
       go_wp2_with fail
       try rw [hwi]
       exact REL.out _ _ mo 0 _ _ _ _ HM2.out (Nat.zero_le _) HL2.out HSI.out
      case true =>
       have hl2 : zs ++ gbF cls (marksFrom t f' ew) (k + 1) false true 0 = Z := by have h := HLK.out; exact h
       have HL2 := Lib.hid hl2; clear hl2
       go_wp2_with fail
       first | rw [Exit.noGoto_normal] | rw [jump_normal]
       go_wp2_with fail
       try rw [hwi]
       exact REL.out _ _ mo 0 _ _ _ _ HM2.out (Nat.zero_le _) HL2.out HSI.out
     ·skip
      have z12 : (y == 12) = false := beq_eq_false_iff_ne.2 y12
      have z13 : (y == 13) = false := beq_eq_false_iff_ne.2 y13
      have z4 : (y == 4) = false := beq_eq_false_iff_ne.2 y4
      have z5 : (y == 5) = false := beq_eq_false_iff_ne.2 y5
      go_wp2_with fail
      refine wp_scope_ahead 0 rfl ?_
      go_wp2_with (go_at_call 48; refine (gjoins_ok _ _ _).mono ?_; rintro e' w1 ⟨rfl, rfl⟩; rw [HGJ.out])
      go_step3
      refine And.intro rfl ?_
      show Code.wp _ _ _ _ _
      cases p
      case false =>
       have hl2 : zs ++ gbF cls (marksFrom t f' ew) (k + 1) false false 0 = Z := by have h := HLK.out; simpa [y12, y13, y4, y5, z12, z4, z5] using h
       have HL2 := Lib.hid hl2; clear hl2
       go_wp2_with fail
       first | rw [Exit.noGoto_normal] | rw [jump_normal]
       go_wp2_with fail
       try rw [hwi]
       exact REL.out _ _ mo 0 _ _ _ _ HM2.out (Nat.zero_le _) HL2.out HSI.out
      case true =>
       have hl2 : zs ++ gbF cls (marksFrom t f' ew) (k + 1) false false 0 = Z := by have h := HLK.out; simpa [y12, y13, y4, y5, z12, z4, z5] using h
       have HL2 := Lib.hid hl2; clear hl2
       go_wp2_with fail
       first | rw [Exit.noGoto_normal] | rw [jump_normal]
       go_wp2_with fail
       try rw [hwi]
       exact REL.out _ _ mo 0 _ _ _ _ HM2.out (Nat.zero_le _) HL2.out HSI.out
    case false =>
     have HGJ := Lib.hid hgj
     clear hgj
     rcases ycase y with rfl | rfl | rfl | rfl | ⟨y12, y13, y4, y5⟩
     ·skip
      cases j
      case true =>
       have hl := HL3.out
       rw [if_pos (Or.inr (Or.inr (Or.inl ⟨rfl, rfl⟩)))] at hl
       have HLK := Lib.hid hl
       clear hl
       go_wp2_with fail
       refine wp_scope_ahead 0 rfl ?_
       go_wp2_with (go_at_call 48; refine (gjoins_ok _ _ _).mono ?_; rintro e' w1 ⟨rfl, rfl⟩; rw [HGJ.out])
       go_step3
       refine And.intro rfl ?_
       show Code.wp _ _ _ _ _
       cases p
       case false =>
        have hl2 : zs ++ gbF cls (marksFrom t f' ew) (k + 1) true false 0 = Z := by have h := HLK.out; exact h
        have HL2 := Lib.hid hl2; clear hl2
        go_wp2_with fail
        first | rw [Exit.noGoto_normal] | rw [jump_normal]
        go_wp2_with fail
        try rw [hwi]
        exact REL.out _ _ mo 0 _ _ _ _ HM2.out (Nat.zero_le _) HL2.out HSI.out
       case true =>
        have hl2 : zs ++ gbF cls (marksFrom t f' ew) (k + 1) true false 0 = Z := by have h := HLK.out; exact h
        have HL2 := Lib.hid hl2; clear hl2
        go_wp2_with fail
        first | rw [Exit.noGoto_normal] | rw [jump_normal]
        go_wp2_with fail
        try rw [hwi]
        exact REL.out _ _ mo 0 _ _ _ _ HM2.out (Nat.zero_le _) HL2.out HSI.out
      case false =>
       have hl := HL3.out
       rw [if_neg (fun h => h.elim (fun h => absurd h (Nat.ne_of_gt HKP.out)) (fun h => h.elim (fun h => by rw [HGJ.out] at h; exact Bool.false_ne_true h) (fun h => h.elim (fun h => by exact Bool.false_ne_true h.1) (fun h => by exact absurd h.1 (by decide)))))] at hl
       have HLC := Lib.hid hl
       clear hl
       go_wp2_with fail
       refine wp_scope_ahead 0 rfl ?_
       go_wp2_with (first | (go_at_call 48; refine (gjoins_ok _ _ _).mono ?_; rintro e' w1 ⟨rfl, rfl⟩; rw [HGJ.out]) | (at_builtin; refine wpList_app _ rfl (.tmp 53) (.tmp 55) 36 rfl w2.heap.size 3 i0 _ 8 Tryz.underlying36 hI0 hz0 hz1 hz2 rfl (.slice Al mo co) mo (intsW zs) rfl HSI.out.alloc1 _ 1 1 [.int .i64 e] rfl (src_one _ _ _) (by simp [Value.oneCell']) HLEN.out.1 HLEN.out.2 (by rw [World.size_alloc]; have := HSI.out.bel.size; omega) ?_; intro v' wp ho hg hn; obtain ⟨B1, d1, rfl, _⟩ := own_slice3 ho; have HSP := Lib.hid (HSI.out.grow ho hg); clear ho hg hn hnx hit))
       go_step3
       rename_i K hK
       refine hK _ _ ?_
       cases p
       case false =>
        have hl2 : (zs ++ [(e : Int)]) ++ gbF cls (marksFrom t f' ew) (k + 1) true false 0 = Z := by simp only [List.append_assoc, List.cons_append, List.nil_append]; have h := HLC.out; exact h
        have HL2 := Lib.hid hl2; clear hl2
        go_wp2_with fail
        first | rw [Exit.noGoto_normal] | rw [jump_normal]
        go_wp2_with fail
        try rw [hwi]
        exact REL.out _ _ (mo + 1) 0 _ _ _ _ HM1.out (Nat.zero_le _) HL2.out HSP.out
       case true =>
        have hl2 : (zs ++ [(e : Int)]) ++ gbF cls (marksFrom t f' ew) (k + 1) true false 0 = Z := by simp only [List.append_assoc, List.cons_append, List.nil_append]; have h := HLC.out; exact h
        have HL2 := Lib.hid hl2; clear hl2
        go_wp2_with fail
        first | rw [Exit.noGoto_normal] | rw [jump_normal]
        go_wp2_with fail
        try rw [hwi]
        exact REL.out _ _ (mo + 1) 0 _ _ _ _ HM1.out (Nat.zero_le _) HL2.out HSP.out
     ·skip
      cases j
      case true =>
       rcases Nat.mod_two_eq_zero_or_one fl with hpa | hpa
       ·have hpj : Int.tmod (fl : Int) 2 = 0 := by rw [show (2 : Int) = ((2 : Nat) : Int) from rfl, ← Int.ofNat_tmod, hpa]; rfl
        have HPA := Lib.hid hpa
        clear hpa
        have hl := HL3.out
        rw [if_neg (fun h => h.elim (fun h => absurd h (Nat.ne_of_gt HKP.out)) (fun h => h.elim (fun h => by rw [HGJ.out] at h; exact Bool.false_ne_true h) (fun h => h.elim (fun h => by exact absurd h.2 (by decide)) (fun h => by have := HPA.out; omega))))] at hl
        have HLC := Lib.hid hl
        clear hl
        go_wp2_with fail
        refine wp_scope_ahead 0 rfl ?_
        go_wp2_with (first | (go_at_call 48; refine (gjoins_ok _ _ _).mono ?_; rintro e' w1 ⟨rfl, rfl⟩; rw [HGJ.out]) | (at_builtin; refine wpList_app _ rfl (.tmp 53) (.tmp 55) 36 rfl w2.heap.size 3 i0 _ 8 Tryz.underlying36 hI0 hz0 hz1 hz2 rfl (.slice Al mo co) mo (intsW zs) rfl HSI.out.alloc1 _ 1 1 [.int .i64 e] rfl (src_one _ _ _) (by simp [Value.oneCell']) HLEN.out.1 HLEN.out.2 (by rw [World.size_alloc]; have := HSI.out.bel.size; omega) ?_; intro v' wp ho hg hn; obtain ⟨B1, d1, rfl, _⟩ := own_slice3 ho; have HSP := Lib.hid (HSI.out.grow ho hg); clear ho hg hn hnx hit))
        go_step3
        rename_i K hK
        refine hK _ _ ?_
        cases p
        case false =>
         have hl2 : (zs ++ [(e : Int)]) ++ gbF cls (marksFrom t f' ew) (k + 1) false false (fl + 1) = Z := by simp only [List.append_assoc, List.cons_append, List.nil_append]; have h := HLC.out; exact h
         have HL2 := Lib.hid hl2; clear hl2
         go_wp2_with fail
         first | rw [Exit.noGoto_normal] | rw [jump_normal]
         go_wp2_with fail
         try rw [hwi]
         rw [HFL.out]
         exact REL.out _ _ (mo + 1) (fl + 1) _ _ _ _ HM1.out HF1.out HL2.out HSP.out
        case true =>
         have hl2 : (zs ++ [(e : Int)]) ++ gbF cls (marksFrom t f' ew) (k + 1) false false (fl + 1) = Z := by simp only [List.append_assoc, List.cons_append, List.nil_append]; have h := HLC.out; exact h
         have HL2 := Lib.hid hl2; clear hl2
         go_wp2_with fail
         first | rw [Exit.noGoto_normal] | rw [jump_normal]
         go_wp2_with fail
         try rw [hwi]
         rw [HFL.out]
         exact REL.out _ _ (mo + 1) (fl + 1) _ _ _ _ HM1.out HF1.out HL2.out HSP.out
       ·have hpj : Int.tmod (fl : Int) 2 = 1 := by rw [show (2 : Int) = ((2 : Nat) : Int) from rfl, ← Int.ofNat_tmod, hpa]; rfl
        have HPA := Lib.hid hpa
        clear hpa
        have hl := HL3.out
        rw [if_pos (Or.inr (Or.inr (Or.inr ⟨rfl, HPA.out⟩)))] at hl
        have HLK := Lib.hid hl
        clear hl
        go_wp2_with fail
        refine wp_scope_ahead 0 rfl ?_
        go_wp2_with (go_at_call 48; refine (gjoins_ok _ _ _).mono ?_; rintro e' w1 ⟨rfl, rfl⟩; rw [HGJ.out])
        go_step3
        refine And.intro rfl ?_
        show Code.wp _ _ _ _ _
        cases p
        case false =>
         have hl2 : zs ++ gbF cls (marksFrom t f' ew) (k + 1) false false (fl + 1) = Z := by have h := HLK.out; exact h
         have HL2 := Lib.hid hl2; clear hl2
         go_wp2_with fail
         first | rw [Exit.noGoto_normal] | rw [jump_normal]
         go_wp2_with fail
         try rw [hwi]
         rw [HFL.out]
         exact REL.out _ _ mo (fl + 1) _ _ _ _ HM2.out HF1.out HL2.out HSI.out
        case true =>
         have hl2 : zs ++ gbF cls (marksFrom t f' ew) (k + 1) false false (fl + 1) = Z := by have h := HLK.out; exact h
         have HL2 := Lib.hid hl2; clear hl2
         go_wp2_with fail
         first | rw [Exit.noGoto_normal] | rw [jump_normal]
         go_wp2_with fail
         try rw [hwi]
         rw [HFL.out]
         exact REL.out _ _ mo (fl + 1) _ _ _ _ HM2.out HF1.out HL2.out HSI.out
      case false =>
       rcases Nat.mod_two_eq_zero_or_one fl with hpa | hpa
       ·have hpj : Int.tmod (fl : Int) 2 = 0 := by rw [show (2 : Int) = ((2 : Nat) : Int) from rfl, ← Int.ofNat_tmod, hpa]; rfl
        have HPA := Lib.hid hpa
        clear hpa
        have hl := HL3.out
        rw [if_neg (fun h => h.elim (fun h => absurd h (Nat.ne_of_gt HKP.out)) (fun h => h.elim (fun h => by rw [HGJ.out] at h; exact Bool.false_ne_true h) (fun h => h.elim (fun h => by exact absurd h.2 (by decide)) (fun h => by have := HPA.out; omega))))] at hl
        have HLC := Lib.hid hl
        clear hl
        go_wp2_with fail
        refine wp_scope_ahead 0 rfl ?_
        go_wp2_with (first | (go_at_call 48; refine (gjoins_ok _ _ _).mono ?_; rintro e' w1 ⟨rfl, rfl⟩; rw [HGJ.out]) | (at_builtin; refine wpList_app _ rfl (.tmp 53) (.tmp 55) 36 rfl w2.heap.size 3 i0 _ 8 Tryz.underlying36 hI0 hz0 hz1 hz2 rfl (.slice Al mo co) mo (intsW zs) rfl HSI.out.alloc1 _ 1 1 [.int .i64 e] rfl (src_one _ _ _) (by simp [Value.oneCell']) HLEN.out.1 HLEN.out.2 (by rw [World.size_alloc]; have := HSI.out.bel.size; omega) ?_; intro v' wp ho hg hn; obtain ⟨B1, d1, rfl, _⟩ := own_slice3 ho; have HSP := Lib.hid (HSI.out.grow ho hg); clear ho hg hn hnx hit))
        go_step3
        rename_i K hK
        refine hK _ _ ?_
        cases p
        case false =>
         have hl2 : (zs ++ [(e : Int)]) ++ gbF cls (marksFrom t f' ew) (k + 1) false false (fl + 1) = Z := by simp only [List.append_assoc, List.cons_append, List.nil_append]; have h := HLC.out; exact h
         have HL2 := Lib.hid hl2; clear hl2
         go_wp2_with fail
         first | rw [Exit.noGoto_normal] | rw [jump_normal]
         go_wp2_with fail
         try rw [hwi]
         rw [HFL.out]
         exact REL.out _ _ (mo + 1) (fl + 1) _ _ _ _ HM1.out HF1.out HL2.out HSP.out
        case true =>
         have hl2 : (zs ++ [(e : Int)]) ++ gbF cls (marksFrom t f' ew) (k + 1) false false (fl + 1) = Z := by simp only [List.append_assoc, List.cons_append, List.nil_append]; have h := HLC.out; exact h
         have HL2 := Lib.hid hl2; clear hl2
         go_wp2_with fail
         first | rw [Exit.noGoto_normal] | rw [jump_normal]
         go_wp2_with fail
         try rw [hwi]
         rw [HFL.out]
         exact REL.out _ _ (mo + 1) (fl + 1) _ _ _ _ HM1.out HF1.out HL2.out HSP.out
       ·have hpj : Int.tmod (fl : Int) 2 = 1 := by rw [show (2 : Int) = ((2 : Nat) : Int) from rfl, ← Int.ofNat_tmod, hpa]; rfl
        have HPA := Lib.hid hpa
        clear hpa
        have hl := HL3.out
        rw [if_pos (Or.inr (Or.inr (Or.inr ⟨rfl, HPA.out⟩)))] at hl
        have HLK := Lib.hid hl
        clear hl
        go_wp2_with fail
        refine wp_scope_ahead 0 rfl ?_
        go_wp2_with (go_at_call 48; refine (gjoins_ok _ _ _).mono ?_; rintro e' w1 ⟨rfl, rfl⟩; rw [HGJ.out])
        go_step3
        refine And.intro rfl ?_
        show Code.wp _ _ _ _ _
        cases p
        case false =>
         have hl2 : zs ++ gbF cls (marksFrom t f' ew) (k + 1) false false (fl + 1) = Z := by have h := HLK.out; exact h
         have HL2 := Lib.hid hl2; clear hl2
         go_wp2_with fail
         first | rw [Exit.noGoto_normal] | rw [jump_normal]
         go_wp2_with fail
         try rw [hwi]
         rw [HFL.out]
         exact REL.out _ _ mo (fl + 1) _ _ _ _ HM2.out HF1.out HL2.out HSI.out
        case true =>
         have hl2 : zs ++ gbF cls (marksFrom t f' ew) (k + 1) false false (fl + 1) = Z := by have h := HLK.out; exact h
         have HL2 := Lib.hid hl2; clear hl2
         go_wp2_with fail
         first | rw [Exit.noGoto_normal] | rw [jump_normal]
         go_wp2_with fail
         try rw [hwi]
         rw [HFL.out]
         exact REL.out _ _ mo (fl + 1) _ _ _ _ HM2.out HF1.out HL2.out HSI.out
     ·skip
      cases j
      case true =>
       have hl := HL3.out
       rw [if_neg (fun h => h.elim (fun h => absurd h (Nat.ne_of_gt HKP.out)) (fun h => h.elim (fun h => by rw [HGJ.out] at h; exact Bool.false_ne_true h) (fun h => h.elim (fun h => by exact absurd h.2 (by decide)) (fun h => by exact absurd h.1 (by decide)))))] at hl
       have HLC := Lib.hid hl
       clear hl
       go_wp2_with fail
       refine wp_scope_ahead 0 rfl ?_
       go_wp2_with (first | (go_at_call 48; refine (gjoins_ok _ _ _).mono ?_; rintro e' w1 ⟨rfl, rfl⟩; rw [HGJ.out]) | (at_builtin; refine wpList_app _ rfl (.tmp 53) (.tmp 55) 36 rfl w2.heap.size 3 i0 _ 8 Tryz.underlying36 hI0 hz0 hz1 hz2 rfl (.slice Al mo co) mo (intsW zs) rfl HSI.out.alloc1 _ 1 1 [.int .i64 e] rfl (src_one _ _ _) (by simp [Value.oneCell']) HLEN.out.1 HLEN.out.2 (by rw [World.size_alloc]; have := HSI.out.bel.size; omega) ?_; intro v' wp ho hg hn; obtain ⟨B1, d1, rfl, _⟩ := own_slice3 ho; have HSP := Lib.hid (HSI.out.grow ho hg); clear ho hg hn hnx hit))
       go_step3
       rename_i K hK
       refine hK _ _ ?_
       cases p
       case false =>
        have hl2 : (zs ++ [(e : Int)]) ++ gbF cls (marksFrom t f' ew) (k + 1) false false 0 = Z := by simp only [List.append_assoc, List.cons_append, List.nil_append]; have h := HLC.out; exact h
        have HL2 := Lib.hid hl2; clear hl2
        go_wp2_with fail
        first | rw [Exit.noGoto_normal] | rw [jump_normal]
        go_wp2_with fail
        try rw [hwi]
        exact REL.out _ _ (mo + 1) 0 _ _ _ _ HM1.out (Nat.zero_le _) HL2.out HSP.out
       case true =>
        have hl2 : (zs ++ [(e : Int)]) ++ gbF cls (marksFrom t f' ew) (k + 1) true false 0 = Z := by simp only [List.append_assoc, List.cons_append, List.nil_append]; have h := HLC.out; exact h
        have HL2 := Lib.hid hl2; clear hl2
        go_wp2_with fail
        first | rw [Exit.noGoto_normal] | rw [jump_normal]
        go_wp2_with fail
        try rw [hwi]
        exact REL.out _ _ (mo + 1) 0 _ _ _ _ HM1.out (Nat.zero_le _) HL2.out HSP.out
      case false =>
       have hl := HL3.out
       rw [if_neg (fun h => h.elim (fun h => absurd h (Nat.ne_of_gt HKP.out)) (fun h => h.elim (fun h => by rw [HGJ.out] at h; exact Bool.false_ne_true h) (fun h => h.elim (fun h => by exact absurd h.2 (by decide)) (fun h => by exact absurd h.1 (by decide)))))] at hl
       have HLC := Lib.hid hl
       clear hl
       go_wp2_with fail
       refine wp_scope_ahead 0 rfl ?_
       go_wp2_with (first | (go_at_call 48; refine (gjoins_ok _ _ _).mono ?_; rintro e' w1 ⟨rfl, rfl⟩; rw [HGJ.out]) | (at_builtin; refine wpList_app _ rfl (.tmp 53) (.tmp 55) 36 rfl w2.heap.size 3 i0 _ 8 Tryz.underlying36 hI0 hz0 hz1 hz2 rfl (.slice Al mo co) mo (intsW zs) rfl HSI.out.alloc1 _ 1 1 [.int .i64 e] rfl (src_one _ _ _) (by simp [Value.oneCell']) HLEN.out.1 HLEN.out.2 (by rw [World.size_alloc]; have := HSI.out.bel.size; omega) ?_; intro v' wp ho hg hn; obtain ⟨B1, d1, rfl, _⟩ := own_slice3 ho; have HSP := Lib.hid (HSI.out.grow ho hg); clear ho hg hn hnx hit))
       go_step3
       rename_i K hK
       refine hK _ _ ?_
       cases p
       case false =>
        have hl2 : (zs ++ [(e : Int)]) ++ gbF cls (marksFrom t f' ew) (k + 1) false false 0 = Z := by simp only [List.append_assoc, List.cons_append, List.nil_append]; have h := HLC.out; exact h
        have HL2 := Lib.hid hl2; clear hl2
        go_wp2_with fail
        first | rw [Exit.noGoto_normal] | rw [jump_normal]
        go_wp2_with fail
        try rw [hwi]
        exact REL.out _ _ (mo + 1) 0 _ _ _ _ HM1.out (Nat.zero_le _) HL2.out HSP.out
       case true =>
        have hl2 : (zs ++ [(e : Int)]) ++ gbF cls (marksFrom t f' ew) (k + 1) true false 0 = Z := by simp only [List.append_assoc, List.cons_append, List.nil_append]; have h := HLC.out; exact h
        have HL2 := Lib.hid hl2; clear hl2
        go_wp2_with fail
        first | rw [Exit.noGoto_normal] | rw [jump_normal]
        go_wp2_with fail
        try rw [hwi]
        exact REL.out _ _ (mo + 1) 0 _ _ _ _ HM1.out (Nat.zero_le _) HL2.out HSP.out
     ·skip
      cases j
      case true =>
       have hl := HL3.out
       rw [if_neg (fun h => h.elim (fun h => absurd h (Nat.ne_of_gt HKP.out)) (fun h => h.elim (fun h => by rw [HGJ.out] at h; exact Bool.false_ne_true h) (fun h => h.elim (fun h => by exact absurd h.2 (by decide)) (fun h => by exact absurd h.1 (by decide)))))] at hl
       have HLC := Lib.hid hl
       clear hl
       go_wp2_with fail
       refine wp_scope_ahead 0 rfl ?_
       go_wp2_with (first | (go_at_call 48; refine (gjoins_ok _ _ _).mono ?_; rintro e' w1 ⟨rfl, rfl⟩; rw [HGJ.out]) | (at_builtin; refine wpList_app _ rfl (.tmp 53) (.tmp 55) 36 rfl w2.heap.size 3 i0 _ 8 Tryz.underlying36 hI0 hz0 hz1 hz2 rfl (.slice Al mo co) mo (intsW zs) rfl HSI.out.alloc1 _ 1 1 [.int .i64 e] rfl (src_one _ _ _) (by simp [Value.oneCell']) HLEN.out.1 HLEN.out.2 (by rw [World.size_alloc]; have := HSI.out.bel.size; omega) ?_; intro v' wp ho hg hn; obtain ⟨B1, d1, rfl, _⟩ := own_slice3 ho; have HSP := Lib.hid (HSI.out.grow ho hg); clear ho hg hn hnx hit))
       go_step3
       rename_i K hK
       refine hK _ _ ?_
       cases p
       case false =>
        have hl2 : (zs ++ [(e : Int)]) ++ gbF cls (marksFrom t f' ew) (k + 1) false false 0 = Z := by simp only [List.append_assoc, List.cons_append, List.nil_append]; have h := HLC.out; exact h
        have HL2 := Lib.hid hl2; clear hl2
        go_wp2_with fail
        first | rw [Exit.noGoto_normal] | rw [jump_normal]
        go_wp2_with fail
        try rw [hwi]
        exact REL.out _ _ (mo + 1) 0 _ _ _ _ HM1.out (Nat.zero_le _) HL2.out HSP.out
       case true =>
        have hl2 : (zs ++ [(e : Int)]) ++ gbF cls (marksFrom t f' ew) (k + 1) false true 0 = Z := by simp only [List.append_assoc, List.cons_append, List.nil_append]; have h := HLC.out; exact h
        have HL2 := Lib.hid hl2; clear hl2
        go_wp2_with fail
        first | rw [Exit.noGoto_normal] | rw [jump_normal]
        go_wp2_with fail
        try rw [hwi]
        exact REL.out _ _ (mo + 1) 0 _ _ _ _ HM1.out (Nat.zero_le _) HL2.out HSP.out
      case false =>
       have hl := HL3.out
       rw [if_neg (fun h => h.elim (fun h => absurd h (Nat.ne_of_gt HKP.out)) (fun h => h.elim (fun h => by rw [HGJ.out] at h; exact Bool.false_ne_true h) (fun h => h.elim (fun h => by exact absurd h.2 (by decide)) (fun h => by exact absurd h.1 (by decide)))))] at hl
       have HLC := Lib.hid hl
       clear hl
       go_wp2_with fail
       refine wp_scope_ahead 0 rfl ?_
       go_wp2_with (first | (go_at_call 48; refine (gjoins_ok _ _ _).mono ?_; rintro e' w1 ⟨rfl, rfl⟩; rw [HGJ.out]) | (at_builtin; refine wpList_app _ rfl (.tmp 53) (.tmp 55) 36 rfl w2.heap.size 3 i0 _ 8 Tryz.underlying36 hI0 hz0 hz1 hz2 rfl (.slice Al mo co) mo (intsW zs) rfl HSI.out.alloc1 _ 1 1 [.int .i64 e] rfl (src_one _ _ _) (by simp [Value.oneCell']) HLEN.out.1 HLEN.out.2 (by rw [World.size_alloc]; have := HSI.out.bel.size; omega) ?_; intro v' wp ho hg hn; obtain ⟨B1, d1, rfl, _⟩ := own_slice3 ho; have HSP := Lib.hid (HSI.out.grow ho hg); clear ho hg hn hnx hit))
       go_step3
       rename_i K hK
       refine hK _ _ ?_
       cases p
       case false =>
        have hl2 : (zs ++ [(e : Int)]) ++ gbF cls (marksFrom t f' ew) (k + 1) false false 0 = Z := by simp only [List.append_assoc, List.cons_append, List.nil_append]; have h := HLC.out; exact h
        have HL2 := Lib.hid hl2; clear hl2
        go_wp2_with fail
        first | rw [Exit.noGoto_normal] | rw [jump_normal]
        go_wp2_with fail
        try rw [hwi]
        exact REL.out _ _ (mo + 1) 0 _ _ _ _ HM1.out (Nat.zero_le _) HL2.out HSP.out
       case true =>
        have hl2 : (zs ++ [(e : Int)]) ++ gbF cls (marksFrom t f' ew) (k + 1) false true 0 = Z := by simp only [List.append_assoc, List.cons_append, List.nil_append]; have h := HLC.out; exact h
        have HL2 := Lib.hid hl2; clear hl2
        go_wp2_with fail
        first | rw [Exit.noGoto_normal] | rw [jump_normal]
        go_wp2_with fail
        try rw [hwi]
        exact REL.out _ _ (mo + 1) 0 _ _ _ _ HM1.out (Nat.zero_le _) HL2.out HSP.out
     ·skip
      have z12 : (y == 12) = false := beq_eq_false_iff_ne.2 y12
      have z13 : (y == 13) = false := beq_eq_false_iff_ne.2 y13
      have z4 : (y == 4) = false := beq_eq_false_iff_ne.2 y4
      have z5 : (y == 5) = false := beq_eq_false_iff_ne.2 y5
      cases j
      case true =>
       have hl := HL3.out
       rw [if_neg (fun h => h.elim (fun h => absurd h (Nat.ne_of_gt HKP.out)) (fun h => h.elim (fun h => by rw [HGJ.out] at h; exact Bool.false_ne_true h) (fun h => h.elim (fun h => by exact y12 h.2) (fun h => by exact y13 h.1))))] at hl
       have HLC := Lib.hid hl
       clear hl
       go_wp2_with fail
       refine wp_scope_ahead 0 rfl ?_
       go_wp2_with (first | (go_at_call 48; refine (gjoins_ok _ _ _).mono ?_; rintro e' w1 ⟨rfl, rfl⟩; rw [HGJ.out]) | (at_builtin; refine wpList_app _ rfl (.tmp 53) (.tmp 55) 36 rfl w2.heap.size 3 i0 _ 8 Tryz.underlying36 hI0 hz0 hz1 hz2 rfl (.slice Al mo co) mo (intsW zs) rfl HSI.out.alloc1 _ 1 1 [.int .i64 e] rfl (src_one _ _ _) (by simp [Value.oneCell']) HLEN.out.1 HLEN.out.2 (by rw [World.size_alloc]; have := HSI.out.bel.size; omega) ?_; intro v' wp ho hg hn; obtain ⟨B1, d1, rfl, _⟩ := own_slice3 ho; have HSP := Lib.hid (HSI.out.grow ho hg); clear ho hg hn hnx hit))
       go_step3
       rename_i K hK
       refine hK _ _ ?_
       cases p
       case false =>
        have hl2 : (zs ++ [(e : Int)]) ++ gbF cls (marksFrom t f' ew) (k + 1) false false 0 = Z := by simp only [List.append_assoc, List.cons_append, List.nil_append]; have h := HLC.out; simpa [y12, y13, y4, y5, z12, z4, z5] using h
        have HL2 := Lib.hid hl2; clear hl2
        go_wp2_with fail
        first | rw [Exit.noGoto_normal] | rw [jump_normal]
        go_wp2_with fail
        try rw [hwi]
        exact REL.out _ _ (mo + 1) 0 _ _ _ _ HM1.out (Nat.zero_le _) HL2.out HSP.out
       case true =>
        have hl2 : (zs ++ [(e : Int)]) ++ gbF cls (marksFrom t f' ew) (k + 1) false false 0 = Z := by simp only [List.append_assoc, List.cons_append, List.nil_append]; have h := HLC.out; simpa [y12, y13, y4, y5, z12, z4, z5] using h
        have HL2 := Lib.hid hl2; clear hl2
        go_wp2_with fail
        first | rw [Exit.noGoto_normal] | rw [jump_normal]
        go_wp2_with fail
        try rw [hwi]
        exact REL.out _ _ (mo + 1) 0 _ _ _ _ HM1.out (Nat.zero_le _) HL2.out HSP.out
      case false =>
       have hl := HL3.out
       rw [if_neg (fun h => h.elim (fun h => absurd h (Nat.ne_of_gt HKP.out)) (fun h => h.elim (fun h => by rw [HGJ.out] at h; exact Bool.false_ne_true h) (fun h => h.elim (fun h => by exact y12 h.2) (fun h => by exact y13 h.1))))] at hl
       have HLC := Lib.hid hl
       clear hl
       go_wp2_with fail
       refine wp_scope_ahead 0 rfl ?_
       go_wp2_with (first | (go_at_call 48; refine (gjoins_ok _ _ _).mono ?_; rintro e' w1 ⟨rfl, rfl⟩; rw [HGJ.out]) | (at_builtin; refine wpList_app _ rfl (.tmp 53) (.tmp 55) 36 rfl w2.heap.size 3 i0 _ 8 Tryz.underlying36 hI0 hz0 hz1 hz2 rfl (.slice Al mo co) mo (intsW zs) rfl HSI.out.alloc1 _ 1 1 [.int .i64 e] rfl (src_one _ _ _) (by simp [Value.oneCell']) HLEN.out.1 HLEN.out.2 (by rw [World.size_alloc]; have := HSI.out.bel.size; omega) ?_; intro v' wp ho hg hn; obtain ⟨B1, d1, rfl, _⟩ := own_slice3 ho; have HSP := Lib.hid (HSI.out.grow ho hg); clear ho hg hn hnx hit))
       go_step3
       rename_i K hK
       refine hK _ _ ?_
       cases p
       case false =>
        have hl2 : (zs ++ [(e : Int)]) ++ gbF cls (marksFrom t f' ew) (k + 1) false false 0 = Z := by simp only [List.append_assoc, List.cons_append, List.nil_append]; have h := HLC.out; simpa [y12, y13, y4, y5, z12, z4, z5] using h
        have HL2 := Lib.hid hl2; clear hl2
        go_wp2_with fail
        first | rw [Exit.noGoto_normal] | rw [jump_normal]
        go_wp2_with fail
        try rw [hwi]
        exact REL.out _ _ (mo + 1) 0 _ _ _ _ HM1.out (Nat.zero_le _) HL2.out HSP.out
       case true =>
        have hl2 : (zs ++ [(e : Int)]) ++ gbF cls (marksFrom t f' ew) (k + 1) false false 0 = Z := by simp only [List.append_assoc, List.cons_append, List.nil_append]; have h := HLC.out; simpa [y12, y13, y4, y5, z12, z4, z5] using h
        have HL2 := Lib.hid hl2; clear hl2
        go_wp2_with fail
        first | rw [Exit.noGoto_normal] | rw [jump_normal]
        go_wp2_with fail
        try rw [hwi]
        exact REL.out _ _ (mo + 1) 0 _ _ _ _ HM1.out (Nat.zero_le _) HL2.out HSP.out
  ·obtain rfl : e = s.size := by omega
   have hz : marksFrom t f s.size = [] := by
    cases f with
    | zero => rfl
    | succ f => unfold marksFrom; rw [if_neg (by have := HSS.out; omega)]
   rw [hz] at hl
   have hzZ : zs = Z := by rw [← hl]; exact (List.append_nil zs).symm
   subst hzZ
   clear hl hz
   have hnx := fun ty => run_next_end_at (P := Tryz.prog) wr _ s s.size ty hit hlt
   have hmm : mo + 1 ≤ 100000 := by have := HSS.out; have := HLT.out; omega
   have HMM := Lib.hid hmm
   have HLEN : Hid (mo + 1 ≤ maxLen ∧ (mo + 1) * 8 ≤ 140737488355328) := Lib.hid ⟨by simp only [maxLen]; omega, by omega⟩
   clear hmm hf he hmo hfl hke hkn hlt hik
   go_wp2_with (at_builtin; refine wpList_app _ rfl (.tmp 75) (.tmp 78) 36 rfl w2.heap.size 3 i0 _ 8 Tryz.underlying36 hI0 hz0 hz1 hz2 rfl (.slice Al mo co) mo (intsW zs) rfl HGL.out.alloc1 _ 1 1 [.int .i64 s.size] rfl (src_one _ _ _) (by simp [Value.oneCell']) HLEN.out.1 HLEN.out.2 (by rw [World.size_alloc]; have := HGL.out.bel.size; omega) ?_; intro v' wp ho hg hn; obtain ⟨B1, d1, rfl, _⟩ := own_slice3 ho; have HSP := Lib.hid (HGL.out.grow ho hg); clear ho hg hn)
   go_ret
   exact ⟨B1, mo + 1, d1, rfl, by rw [HWB.out, ← HSS.out]; exact ints_own HSP.out.own HMM.out, HB2.out.trans (HSP.out.bel.mono HB2.out.size)⟩
end
end Go.Proofs.YtmpkgddioiaonaaGreatDoor.searchLeft
