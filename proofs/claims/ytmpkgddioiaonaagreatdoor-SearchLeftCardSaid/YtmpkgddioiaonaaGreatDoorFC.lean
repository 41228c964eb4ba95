/- SearchLeft, walked: utf.Runes, write, joined, Fold; runes' bytes. -/
import Derived.Test.YtmpkgddioiaonaaGreatDoorFB
import Derived.Test.YtmpkgddioiaonaaGreatDoorFP
import Derived.RangeFuncBox
import Derived.RangeFuncLeaves
import Derived.Shelf.Abstract
import Derived.WalkKit
import Derived.OwnWalkIn
import Derived.TacticsInMore
import Derived.LoopNIn
import Derived.LoopIn
import Derived.Maps.AppendAt
import Derived.Lib.OthersKept
import Derived.Deep.AppendLies
import Derived.Shelf.Strings.BuilderK
import Derived.BigCall
import Derived.BigQuiet
import Derived.Lib.QuoteLoop
import Derived.Lib.MapLaws
namespace Go.Proofs.YtmpkgddioiaonaaGreatDoor.searchLeft
section
open Go.RowKit Go.Shelf Go.Lib Go.Proofs.YtmpkgddioiaonaaGreatDoor.Am
open Pieces (bt bt_app)
open Folds (dec dec_pos dec_le dec_le4)
attribute [local go_sem] Oper.semAt_some
/-- the runes of a text from a place on: where each stands, which it is -/
def marksFrom (t : List UInt8) : Nat → Nat → List (Nat × Nat)
 | 0, _ => []
 | n + 1, e => if e < t.length then (e, (dec (t.drop e)).1) :: marksFrom t n (e + (dec (t.drop e)).2) else []
def marks (t : List UInt8) : List (Nat × Nat) := marksFrom t t.length 0
def encM (x : Nat × Nat) : Array Value := #[.int .i64 x.1, .int .i32 x.2]
theorem marks_len (t : List UInt8) : ∀ n e, e ≤ t.length → (marksFrom t n e).length + e ≤ t.length
 | 0, e, h => by simpa [marksFrom] using h
 | n + 1, e, h => by
   unfold marksFrom
   by_cases c : e < t.length
   ·rw [if_pos c]
    have h1 := dec_pos (t.drop e)
    have h2 := dec_le (t.drop e) (by intro d; rw [List.drop_eq_nil_iff] at d; omega)
    rw [List.length_drop] at h2
    have := marks_len t n (e + (dec (t.drop e)).2) (by omega)
    simp only [List.length_cons]; omega
   ·rw [if_neg c]; simpa using h
theorem decode_drop (t : List UInt8) (e : Nat) (s : ByteArray) (hs : (⟨t.toArray⟩ : ByteArray) = s) : Utf8.decode s e = dec (t.drop e) := by
 have hd : s.data.toList = t := by subst hs; simp
 rw [← Folds.decL, ← hd, Go.Lib.decodeL_drop]
theorem grown_iterAt (w : World) (k : Nat) (s : ByteArray) (p : Nat) : w.grownBy (w.iterAt k s p) (some k) :=
 ⟨rfl, rfl, rfl, by rw [iterAt_size]; exact Nat.le_refl _, fun j _ hn => iterAt_other w k j s p (fun c => hn (by rw [c]))⟩
theorem cell_iterAt {w : World} {k : Nat} {s s' : ByteArray} {p p' : Nat} {a : Addr} {v : Value} (hk : w.heap[k]? = some (.stringIter s p)) (h : w.cell? a = some v) : (w.iterAt k s' p').cell? a = some v := by
 have hne : a.block ≠ k := by
  rintro rfl
  unfold World.cell? at h
  simp [hk] at h
 rw [World.cell?_of_block (w := w) (iterAt_other w k a.block s' p' hne)]; exact h
set_option maxRecDepth 100000 in
set_option maxHeartbeats 2000000 in
theorem each1_in (F : Fence) (n : Nat) (h6 : F.fn 105) (hro : F.round = none) (hn : 1 ≤ n) (l Bs : Nat) (t : List UInt8) (s : ByteArray) (hs : (⟨t.toArray⟩ : ByteArray) = s) (J Jx : List (Nat × Nat) → World → Prop) (W : World) (hJ : AbidesFrom W.heap.size J)
 (hY : ∀ pre x W1, J pre W1 → pre.length < t.length → YieldAt F (n - 1) Tryz.prog l (encM x) W1 fun e W' =>
  (e = .returned (.bool true) ∧ J (pre ++ [x]) W' ∧ KeepsWalks W1 W') ∨ (e = .returned (.bool false) ∧ Jx (pre ++ [x]) W'))
 (hBs : W.cell? ⟨Bs, 0, none⟩ = some (.string s)) (h0 : J [] W) :
 CallsIn F n Tryz.prog 105 #[.func (.yield l) #[] #[], .pointer (some ⟨Bs, 0, none⟩)] W fun e W' => (∃ v, e = .returned v) ∧
  ((∃ ys, ys = marks t ∧ J ys W') ∨ (∃ pre, pre <+: marks t ∧ Jx pre W')) := by
 refine callsIn_of_wp Tryz.func105 rfl h6 ?_ hro
 simp only [Tryz.ntmps105, List.size_toArray, List.length_cons, List.length_nil, Nat.reduceAdd, Nat.reduceSub, Array.replicate_succ, Array.replicate_zero, List.push_toArray, List.append_toArray, List.nil_append, List.cons_append]
 gi_wp2
 have hss : s.size = t.length := size_mk t s hs
 gi_loopw [] (fun wr => ∃ e n pre, wr.heap[W.heap.size]? = some (.stringIter s e) ∧ J pre wr ∧ pre ++ marksFrom t n e = marks t ∧ e ≤ t.length ∧ t.length < n + e + 1)
  (fun wr => s.size - wr.iterPos W.heap.size)
 case atStart =>
  exact ⟨0, t.length, [], World.iter_heap W s 0, hJ _ _ _ none h0 (World.grownBy_alloc _ _ _) (by simp), rfl, Nat.zero_le _, by omega⟩
 case round =>
  obtain ⟨e, m, pre, hit, hJs, hm, he, hme⟩ := hrel
  by_cases hlt : e < t.length
  ·have hnx := fun ty => run_next_any_at (P := Tryz.prog) wr W.heap.size s e ty hit (by omega)
   rw [decode_drop t e s hs] at hnx
   obtain ⟨m', rfl⟩ : ∃ m', m = m' + 1 := ⟨m - 1, by omega⟩
   have hd1 := dec_pos (t.drop e)
   have hd2 := dec_le (t.drop e) (by intro d; rw [List.drop_eq_nil_iff] at d; omega)
   rw [List.length_drop] at hd2
   unfold marksFrom at hm
   rw [if_pos hlt] at hm
   obtain ⟨r, hr⟩ : ∃ r, (dec (t.drop e)).1 = r := ⟨_, rfl⟩
   obtain ⟨k, hk⟩ : ∃ k, (dec (t.drop e)).2 = k := ⟨_, rfl⟩
   rw [hr, hk] at hm hnx
   rw [hk] at hd1 hd2
   have hJ2 : J pre (wr.iterAt W.heap.size s (e + k)) := hJ _ _ _ _ hJs (grown_iterAt wr W.heap.size s (e + k)) (fun j hj => by cases hj; exact ⟨Nat.le_refl _, _, hit, rfl⟩)
   have hit2 := iterAt_heap wr W.heap.size s e (e + k) hit
   have hlen : pre.length < t.length := by
    have h1 := congrArg List.length hm
    have h2 := marks_len t t.length 0 (Nat.zero_le _)
    unfold marks at h1
    rw [List.length_append, List.length_cons] at h1
    omega
   obtain ⟨fn, tmps, assign, body, hy, hR⟩ := hY pre (e, r) _ hJ2 hlen
   try simp only [encM] at hy
   gi_wp2
   refine hR.mono ?_
   rintro x W3 (⟨rfl, hJ3, hk3⟩ | ⟨rfl, hJx3⟩)
   ·have hit3 := hk3.same _ _ hit2 rfl
    gi_wp2
    go_roundw
    case rel => exact ⟨e + k, m', pre ++ [(e, r)], hit3, hJ3, by rw [← hm]; simp, by omega, by omega⟩
    case measure => simp only [World.iterPos, hit3, hit]; omega
   ·gi_wp2
    refine bodyPost_ret (results_none rfl _ _ _) rfl ?_
    exact ⟨⟨_, rfl⟩, .inr ⟨pre ++ [(e, r)], ⟨marksFrom t m' (e + k), by rw [← hm]; simp⟩, hJx3⟩⟩
  ·have hnx := fun ty => run_next_end_at (P := Tryz.prog) wr W.heap.size s e ty hit (by omega)
   gi_wp2
   go_end0
   refine ⟨⟨_, rfl⟩, .inl ⟨pre, ?_, hJs⟩⟩
   rw [← hm]
   cases m with
   | zero => simp [marksFrom]
   | succ m' => simp [marksFrom, hlt]
theorem Each_in (F : Fence) (n : Nat) (h5 : F.fn 67) (hro : F.round = none) (s : ByteArray) (w : World) :
 CallsIn F n Tryz.prog 67 #[.string s] w fun e w' => e = .returned (.func (.func 105) #[] #[.pointer (some ⟨w.heap.size, 0, none⟩)]) ∧ w' = w.alloc (.cells #[.string s] 9) := by
 refine callsIn_of_wp Tryz.func67 rfl h5 ?_ hro
 simp only [Tryz.ntmps67, List.size_toArray, List.length_cons, List.length_nil, Nat.reduceAdd, Nat.reduceSub, Array.replicate_succ, Array.replicate_zero, List.push_toArray, List.append_toArray, List.nil_append, List.cons_append]
 gi_wp2
 go_ret
 exact ⟨rfl, rfl⟩
theorem each_stops (F : Fence) (n : Nat) (h6 : F.fn 105) (hro : F.round = none) (hn : 1 ≤ n) (Bs : Nat) (t : List UInt8) (s : ByteArray) (hs : (⟨t.toArray⟩ : ByteArray) = s) (w : World) (hBs : Bs < w.heap.size) (hc : w.cell? ⟨Bs, 0, none⟩ = some (.string s)) :
 SeqStopsK F n Tryz.prog 105 #[.pointer (some ⟨Bs, 0, none⟩)] encM KeepsWalks (fun ys => ys = marks t) (fun pre => pre <+: marks t) t.length w := fun l J Jx W hW hJ _ hY h0 =>
 each1_in F n h6 hro hn l Bs t s hs J Jx W hJ hY ((hW.cell (p := ⟨Bs, 0, none⟩) hBs).trans hc) h0
theorem info_rune : (Tryz.prog.info? 21).map (fun i => (i.zero, i.size, i.bytes)) = some (some (.int .i32 0), 1, 4) := by kernel_rfl
def runeVs (l : List (Nat × Nat)) : List Value := l.map fun x => Value.int .i32 x.2
set_option maxRecDepth 100000 in
set_option maxHeartbeats 2000000 in
theorem Runes_in (F : Fence) (n : Nat) (h3 : F.fn 42) (h4 : F.fn 67) (h5 : F.fn 105) (hro : F.round = none) (hn : 3 ≤ n) (t : List UInt8) (s : ByteArray) (hs : (⟨t.toArray⟩ : ByteArray) = s) (hlen : t.length ≤ 1000000) (w : World) :
 CallsIn F n Tryz.prog 42 #[.string s] w fun e W' => ∃ v, e = .returned v ∧ W'.ownsRow w.heap.size 21 1 v (marks t).length (runeVs (marks t)) ∧ Below w.heap.size w W' := by
 have h1 : 1 ≤ n := by omega
 obtain ⟨i0, hi, hz0, hz1, hz2⟩ := info_parts info_rune
 refine callsIn_of_wp_marks Tryz.func42 rfl h3 ?_ hro
 simp only [Tryz.ntmps42, List.size_toArray, List.length_cons, List.length_nil, Nat.reduceAdd, Nat.reduceSub, Array.replicate_succ, Array.replicate_zero, List.push_toArray, List.append_toArray, List.nil_append, List.cons_append]
 gi_wp2_with (gi_at_call 67; refine (Each_in F (n - 1) h4 hro _ _).mono ?_; rintro e w' ⟨rfl, rfl⟩)
 have bO := Boxed.new w 92 (.slice none 0 0)
 have bN := Boxed.new (w.alloc (.cells #[.slice none 0 0] 92)) 9 (.string s)
 rw [World.size_alloc] at bN
 have hB0 : Below w.heap.size w ((w.alloc (.cells #[.slice none 0 0] 92)).alloc (.cells #[.string s] 9)) := ((Below.refl _ w).alloc (Nat.le_refl _) _).alloc (by simp) _
 refine wpIn_rangeFunc_ownG hro h1 (gf := 105) (lb := #[.pointer (some ⟨w.heap.size + 1, 0, none⟩)]) rfl h5 (enters_of Tryz.func105 (by kernel_rfl) rfl)
  (each_stops F (n - 1) h5 hro (by omega) (w.heap.size + 1) t s hs _ (by simp) bN.cell) walksK_t walksK_b (Below.refl _ _) (fun _ => rfl)
  (fun pre W => (∃ v, Boxed W w.heap.size 92 v ∧ W.ownsRow w.heap.size 21 1 v (pre : List (Nat × Nat)).length (runeVs pre) ∧ True) ∧ Below w.heap.size w W)
  (fun _ _ _ => False)
  (OwnFrom.and (Own.from (holdsRow_own w.heap.size w.heap.size 92 21 1 (fun pre => pre.length) (fun pre => runeVs pre) (fun _ _ => True)) _) (ownFrom_below (Nat.le_refl _) (by simp; omega)))
  (fun _ _ _ _ _ hs _ _ => hs)
  ⟨⟨_, bO.alloc _, World.ownsRow_nil _ _ _ _, trivial⟩, hB0⟩
  (fun x => { tmps := #[.string s, undef, .slice none 0 0, .pointer (some ⟨w.heap.size, 0, none⟩), undef, .int .i32 x.2, .string s, .func (.func 105) #[] #[.pointer (some ⟨w.heap.size + 1, 0, none⟩)], .int .i64 x.1, .int .i32 x.2, undef, undef, undef, undef, undef], defers := [] }) ?assign ?body ?done ?stop
 case assign =>
  intro l x W K hK
  simp only [encM]
  gi_wp2
  exact hK
 case body =>
  rintro l pre x W ⟨⟨v, hv, hrow, _⟩, hB⟩ hlt
  have hc := hv.cell
  gi_wp2_with (gi_at_builtin; refine wpListIn_append_own _ rfl _ _ 92 rfl w.heap.size 21 i0 (.int .i32 0) 1 4 Tryz.underlying92 hi hz0 hz1 hz2 rfl (by decide) _ _ _ rfl (hrow.alloc _) ⟨W.heap.size, 0, none⟩ 1 1 [.int .i32 x.2] rfl rfl (cell_one_new _ _ _) (by simp [Value.oneCell']) (by simp only [maxLen]; omega) (by omega) (by have := hB.size; simp; omega) ?_; intro v' w1 hown' hgrow _; obtain ⟨g', cap', rfl⟩ := ownsRow_succ hown'; obtain ⟨hv1, hv2, hr2, hk2, hb2⟩ := hv.appended (by decide) hrow hB.size (Nat.le_refl _) hown' hgrow; have hc1 := hv1.cell; have hf1 := hv1.frozen)
  exact ⟨hk2.from _, hk2.walks, ⟨_, hv2, by simpa [runeVs] using hr2, trivial⟩, hB.trans hb2⟩
 case done =>
  rintro D ys W hD rfl ⟨⟨v, hv, hrow, _⟩, hB⟩ hK
  have hc := hv.cell
  gi_wp2
  refine ⟨by simp, .inl ⟨_, _, rfl, run_takeDeferred hK, ?_⟩⟩
  exact ⟨_, results_tmp rfl _ _ _, v, rfl, ownsRow_putObj hrow _ hK rfl, hB.trans (belowK_b (w := w) (Nat.le_refl _) W D _ _ (by simp at hD; omega) hK rfl rfl)⟩
 case stop =>
  rintro D c pre W _ _ h _
  exact h.elim
def runesOf (t : List UInt8) : List Int := (marks t).map fun x => (x.2 : Int)
def RunesPost (t : List UInt8) (W : World) (e : Ending) (w' : World) : Prop := ∃ v, e = .returned v ∧ SliceIs w' v (runesOf t) ∧ Below W.heap.size W w'
theorem Runes_ok (t : List UInt8) (hlen : t.length ≤ 1000000) (w : World) : Calls Tryz.prog 42 #[.string ⟨t.toArray⟩] w (RunesPost t w) := by
 refine (callsIn_wide (n := 3)).1 ((Runes_in _ 3 trivial trivial trivial rfl (Nat.le_refl _) t _ rfl hlen w).mono ?_)
 rintro e w' ⟨v, rfl, hrow, hb⟩
 refine ⟨v, rfl, ?_, hb⟩
 have hl : (runesOf t).length = (marks t).length := by simp [runesOf]
 rcases hrow.2 with ⟨h2, h0⟩ | ⟨g, cap, cur, hv, hbg, hg, hnc, hcm, hcs, htk⟩
 ·rw [h2]
  refine ⟨none, 0, by rw [hl, h0], by rw [hl, h0]; exact Nat.le_refl _, fun c => ?_⟩
  rw [hl, h0] at c; omega
 ·rw [hv, ← hl]
  refine ⟨_, _, rfl, by rw [hl]; exact hnc, fun _ => ⟨g, 0, rfl, fun j hj => ?_⟩⟩
  have hx := hrow.cells (g := g) (by rw [hv]; rfl) j (.int .i32 ((runesOf t).getD j 0)) ?_
  ·rw [← add_none]; exact hx
  ·unfold runeVs runesOf
   rw [List.getElem?_map, List.getD_eq_getElem?_getD, List.getElem?_map]
   rw [hl] at hj
   rw [List.getElem?_eq_getElem hj]
   rfl
end
section
open Go.Shelf Go.RowKit Go.Lib Go.Proofs.YtmpkgddioiaonaaGreatDoor.Am
open Folds (dec dec_pos dec_le)
def Tryz.lays197_ren : Go.Shelf.Ren := ⟨fun | 197 => 53 | 260 => 82 | n => n, fun | 9 => 9 | 21 => 21 | 3 => 3 | 4 => 4 | 5 => 5 | 105 => 67 | 119 => 118 | 0 => 0 | 46 => 108 | 139 => 140 | 138 => 139 | n => n, fun | 3 => 1 | 4 => 2 | n => n⟩
theorem Tryz.lays197 : Go.Proofs.Lays.n197 Tryz.prog Tryz.lays197_ren := {
 mixed := by kernel_rfl
 f197 := Tryz.func53.trans (congrArg some (by kernel_rfl))
 f260 := Tryz.func82.trans (congrArg some (by kernel_rfl))
 t0 := Tryz.underlying0
 a0 := Tryz.isAgg0
 z0 := Tryz.sizeOf0
 v0 := Tryz.zeroValue0
 t3 := Tryz.underlying3
 a3 := Tryz.isAgg3
 z3 := Tryz.sizeOf3
 v3 := Tryz.zeroValue3
 t4 := Tryz.underlying4
 a4 := Tryz.isAgg4
 z4 := Tryz.sizeOf4
 v4 := Tryz.zeroValue4
 t5 := Tryz.underlying5
 a5 := Tryz.isAgg5
 z5 := Tryz.sizeOf5
 v5 := Tryz.zeroValue5
 t9 := Tryz.underlying9
 a9 := Tryz.isAgg9
 z9 := Tryz.sizeOf9
 v9 := Tryz.zeroValue9
 t21 := Tryz.underlying21
 a21 := Tryz.isAgg21
 z21 := Tryz.sizeOf21
 v21 := Tryz.zeroValue21
 t46 := Tryz.underlying108
 a46 := Tryz.isAgg108
 z46 := Tryz.sizeOf108
 v46 := Tryz.zeroValue108
 t105 := Tryz.underlying67
 a105 := Tryz.isAgg67
 z105 := Tryz.sizeOf67
 v105 := Tryz.zeroValue67
 t119 := Tryz.underlying118
 a119 := Tryz.isAgg118
 z119 := Tryz.sizeOf118
 t138 := Tryz.underlying139
 a138 := Tryz.isAgg139
 z138 := Tryz.sizeOf139
 v138 := Tryz.zeroValue139
 t139 := Tryz.underlying140
 a139 := Tryz.isAgg140
 z139 := Tryz.sizeOf140
 v139 := Tryz.zeroValue140
 g3 := by kernel_rfl
 g4 := by kernel_rfl }
theorem decGo (l : List UInt8) (h0 : l ≠ []) : Lib.decodeGo ⟨l.toArray⟩ = dec l := by
 unfold Lib.decodeGo
 rw [if_neg (by rw [size_mk l _ rfl]; cases l with | nil => exact absurd rfl h0 | cons a b => simp)]
 have := decode_drop l 0 _ rfl
 rwa [List.drop_zero] at this
theorem decRune_ok (l : List UInt8) (h0 : l ≠ []) (w : World) (hT : Lib.Utf8Tabs 1 2 w) :
 Calls Tryz.prog 53 #[.string ⟨l.toArray⟩] w fun e w' => e = .returned (.tuple #[.int .i32 (dec l).1, .int .i64 (dec l).2]) ∧ Below w.heap.size w w' := by
 have h := Any.utf8_DecodeRuneInString Tryz.lays197 ⟨l.toArray⟩ w hT
 rw [decGo l h0] at h
 exact h
theorem Decode_ok (l : List UInt8) (h0 : l ≠ []) (w : World) (hT : Lib.Utf8Tabs 1 2 w) :
 Calls Tryz.prog 29 #[.string ⟨l.toArray⟩] w fun e w' => e = .returned (.tuple #[.int .i32 (dec l).1, .int .i64 (dec l).2]) ∧ Below w.heap.size w w' := by
 have hd := decRune_ok l h0
 obtain ⟨s, hs⟩ : ∃ s : ByteArray, (⟨l.toArray⟩ : ByteArray) = s := ⟨_, rfl⟩
 have h2 : s.toList.isEmpty = false := by rw [← hs, ByteArray.toList_mk]; cases l with | nil => exact absurd rfl h0 | cons a b => rfl
 have h1 : !s.toList.isEmpty := by rw [h2]; rfl
 rw [hs] at hd ⊢
 clear hs h0
 go_enter Tryz.func29, Tryz.ntmps29
 go_wp2_with (go_at_call 53; refine (hd _ hT).mono ?_; rintro e w' ⟨rfl, hb⟩)
 go_ret2
 exact ⟨rfl, hb⟩
abbrev Pc := Nat × Nat × List UInt8
def piecesV (l : List Pc) : List Value := l.flatMap fun p => [.int .i64 p.1, .int .i32 p.2.1, .string ⟨p.2.2.toArray⟩]
theorem piecesV_app (l x : List Pc) : piecesV (l ++ x) = piecesV l ++ piecesV x := by simp [piecesV]
/-- the pieces of a text, from a place on -/
def pcs (enc : Nat → Nat → List UInt8) (t : List UInt8) : Nat → Nat → Nat → List Pc
 | 0, _, _ => []
 | n + 1, i, e => if e < t.length then (e, (dec (t.drop e)).1, Folds.one (enc i) (t.drop e)) :: pcs enc t n (i + 1) (e + (dec (t.drop e)).2) else []
/-- what stands in the place of a rune -/
def encW (k : Nat) (fin : Nat → Bool) (i r : Nat) : List UInt8 := if (k = 0 ∧ r = 931) ∧ fin i = true then [207, 130] else encL (formV r k)
def pcsOf (k : Nat) (fin : Nat → Bool) (t : List UInt8) : List Pc := pcs (encW k fin) t t.length 0 0
theorem formsT_len : (formsT.all fun p => p.2.all fun l => decide (l.length ≤ 3)) = true := by decide +kernel
theorem formV_len (r : Int) (k : Nat) : (formV r k).length ≤ 3 := by
 unfold formV
 cases h : formsOf r with
 | none => dsimp only; split <;> simp
 | some fs =>
   unfold formsOf at h
   obtain ⟨p, hp, rfl⟩ := Option.map_eq_some_iff.1 h
   have := List.all_eq_true.1 formsT_len p (List.mem_of_find?_eq_some hp)
   dsimp only
   rcases Nat.lt_or_ge k p.2.length with c | c
   ·rw [List.getD_eq_getElem?_getD, List.getElem?_eq_getElem c]
    have := List.all_eq_true.1 this _ (List.getElem_mem c)
    exact of_decide_eq_true this
   ·rw [List.getD_eq_getElem?_getD, List.getElem?_eq_none c]; simp
theorem tabs_below {w w' : World} {g0 g1 : Nat} (h : Below w.heap.size w w') (hT : Lib.Utf8Tabs g0 g1 w) : Lib.Utf8Tabs g0 g1 w' := tabs_fr (Fr.of_below (T := fun _ => False) h (Nat.le_refl _)) hT id id
/-- what final is to do -/
def Finals (v : Value) (rs : List Int) (fin : Nat → Bool) (W : World) : Prop :=
 ∀ (w : World) (A : Option Addr) (c i : Nat), Below W.heap.size W w → SliceIs w (.slice A rs.length c) rs → i < rs.length → Calls Tryz.prog 45 #[v, .slice A rs.length c, .int .i64 i] w fun e w' => e = .returned (.bool (fin i)) ∧ Below w.heap.size w w'
def WritePost (l : List Pc) (W : World) (e : Ending) (w' : World) : Prop := ∃ v, e = .returned v ∧ w'.ownsRow W.heap.size 77 3 v l.length (piecesV l) ∧ Below W.heap.size W w'
structure WL (W : World) (s : ByteArray) (vl : Value) (e : Nat) (acc : List Pc) (w : World) : Prop where
 bel : Below W.heap.size W w
 it : w.heap[W.heap.size]? = some (.stringIter s e)
 own : w.ownsRow W.heap.size 77 3 vl acc.length (piecesV acc)
theorem below_blk {w w' : World} {k : Nat} {o : Obj} (h : Below w.heap.size w w') (hk : w.heap[k]? = some o) : w'.heap[k]? = some o := (h.block k (heap_lt hk)).trans hk
theorem own_below {w w' : World} {base : Nat} {e : TypeId} {size n : Nat} {v : Value} {xs : List Value} (hb : Below w.heap.size w w') (h : w.ownsRow base e size v n xs) : w'.ownsRow base e size v n xs := (Fr.of_below (T := fun _ => False) hb (Nat.le_refl _)).own h (fun _ _ => id)
theorem own_iterAt {w : World} {base k : Nat} {s s' : ByteArray} {p p' : Nat} {e : TypeId} {size n : Nat} {v : Value} {xs : List Value} (hk : w.heap[k]? = some (.stringIter s p)) (h : w.ownsRow base e size v n xs) : (w.iterAt k s' p').ownsRow base e size v n xs := by
 refine ⟨h.1, ?_⟩
 rcases h.2 with h2 | ⟨g, cap, cur, hv, hb, hg, r⟩
 ·exact .inl h2
 ·have n3 : g ≠ k := by rintro rfl; rw [hk] at hg; cases hg
  exact .inr ⟨g, cap, cur, hv, hb, (iterAt_other w k g s' p' n3).trans hg, r⟩
theorem WL.below {W : World} {s : ByteArray} {vl : Value} {e : Nat} {acc : List Pc} {w w' : World} (h : WL W s vl e acc w) (hb : Below w.heap.size w w') : WL W s vl e acc w' :=
 ⟨h.bel.trans (hb.mono h.bel.size), below_blk hb h.it, own_below hb h.own⟩
theorem WL.iter {W : World} {s : ByteArray} {vl : Value} {e e' : Nat} {acc : List Pc} {w : World} (h : WL W s vl e acc w) : WL W s vl e' acc (w.iterAt W.heap.size s e') :=
 ⟨below_iterAt h.bel (Nat.le_refl _) s e', iterAt_heap w _ s e e' h.it, own_iterAt h.it h.own⟩
theorem piece_info : (Tryz.prog.info? 77).map (fun i => (i.zero, i.size, i.bytes)) = some (some (.agg #[.int .i64 0, .int .i32 0, .string ⟨#[]⟩]), 3, 32) := by kernel_rfl
theorem own_slice3 {w : World} {base : Nat} {e : TypeId} {v : Value} {size n : Nat} {xs : List Value} (h : w.ownsRow base e size v n xs) : ∃ A c, v = .slice A n c ∧ n ≤ c := by
 obtain ⟨A, c, h1, _, _, h2, _⟩ := own_slice h
 exact ⟨A, c, h1, h2⟩
theorem pc_ext (t : List UInt8) (e : Nat) (s : ByteArray) (hs : (⟨t.toArray⟩ : ByteArray) = s) : s.extract e s.size = ⟨(t.drop e).toArray⟩ := by
 subst hs
 rw [ByteArray.extract_mk, List.take_of_length_le]
 simp [ByteArray.size]
theorem pc_ext1 (t : List UInt8) (e : Nat) (s : ByteArray) (hs : (⟨t.toArray⟩ : ByteArray) = s) : s.extract e (e + 1) = ⟨((t.drop e).take 1).toArray⟩ := by
 subst hs
 rw [ByteArray.extract_mk, Nat.add_sub_cancel_left]
theorem WL.own' {W : World} {s : ByteArray} {A : Option Addr} {m c e : Nat} {acc : List Pc} {w : World} (h : WL W s (.slice A m c) e acc w) : w.ownsRow W.heap.size 77 3 (.slice A m c) m (piecesV acc) := by
 have h1 := h.own
 obtain ⟨A', c', he, _⟩ := own_slice3 h1
 injection he with _ he _
 rw [← he] at h1
 exact h1
theorem own_alloc {w : World} {base : Nat} {e : TypeId} {size n : Nat} {v : Value} {xs : List Value} {o : Obj} (h : w.ownsRow base e size v n xs) : (w.alloc o).ownsRow base e size v n xs := own_below ((Below.refl _ _).alloc (Nat.le_refl _) _) h
theorem alloc_base {w : World} {b : Nat} {o : Obj} (h : b ≤ w.heap.size) : b ≤ (w.alloc o).heap.size := by rw [World.size_alloc]; omega
theorem piece_cells (w : World) (a b c : Value) (t : TypeId) : ∀ j u, [a, b, c][j]? = some u → (w.alloc (.cells #[a, b, c] t)).cell? ((⟨w.heap.size, 0, none⟩ : Addr).add j) = some u := by
 intro j u hu
 rw [add_none, Nat.zero_add, cell_of_row _ _ _ _ _ _ (heap_alloc_new w _), ← hu]
 simp
theorem piece_cell1 (a b : Int) (t : List UInt8) : ∀ u ∈ [Value.int .i64 a, .int .i32 b, .string ⟨t.toArray⟩], u.oneCell' = true := by
 intro u hu
 simp at hu
 rcases hu with rfl | rfl | rfl <;> rfl
theorem WL.grown {W : World} {s : ByteArray} {vl v' : Value} {e m at_ r : Nat} {X : List UInt8} {acc : List Pc} {w w' : World} {o : Obj} (h : WL W s vl e acc w)
 (ho : w'.ownsRow W.heap.size 77 3 v' m (piecesV acc ++ [.int .i64 at_, .int .i32 r, .string ⟨X.toArray⟩])) (hg : (w.alloc o).grownBy w' vl.ownBlock) : WL W s v' e (acc ++ [(at_, r, X)]) w' := by
 have hb1 : Below W.heap.size W (w.alloc o) := h.bel.alloc h.bel.size o
 have hown : (w.alloc o).ownsRow W.heap.size 77 3 vl acc.length (piecesV acc) := own_alloc h.own
 have hm : m = acc.length + 1 := by
  have h1 := ho.1
  have h2 : (piecesV acc).length = acc.length * 3 := hown.1
  simp only [List.length_append, List.length_cons, List.length_nil, h2] at h1
  omega
 refine ⟨hb1.grown hg hb1.size (fun k hk => (own_lt hown hk).1), ?_, ?_⟩
 ·rw [hg.block _ (Nat.lt_of_lt_of_le (heap_lt h.it) (by rw [World.size_alloc]; omega)) ?_]
  ·exact (Below.heap_alloc w o _ (heap_lt h.it)).trans h.it
  ·intro hk
   obtain ⟨_, _, cur, hcur⟩ := own_lt hown hk.symm
   rw [(Below.heap_alloc w o _ (heap_lt h.it)).trans h.it] at hcur
   cases hcur
 ·rw [piecesV_app]
  simp only [List.length_append, List.length_cons, List.length_nil, Nat.zero_add]
  rw [← hm]
  exact ho
theorem LEN {n e : Nat} (m : Nat) (h1 : m ≤ e) (h2 : e ≤ n) (h3 : n ≤ 100000) : m + 1 ≤ maxLen ∧ (m + 1) * 32 ≤ 140737488355328 := ⟨by simp only [maxLen]; omega, by omega⟩
end
section
open Go.Shelf Go.RowKit Go.Lib Go.Proofs.YtmpkgddioiaonaaGreatDoor.Am
open Folds (dec dec_pos dec_le)
set_option maxHeartbeats 8000000 in
set_option maxRecDepth 100000 in
theorem write_pos (t : List UInt8) (k : Nat) (hk : k < 4) (c1 : k ≠ 0) (fin : Nat → Bool) (v : Value) (W : World) (h : OpenP W v) (hT : Lib.Utf8Tabs 1 2 W) (hn : t.length ≤ 100000) :
 Calls Tryz.prog 23 #[v, .string ⟨t.toArray⟩, .int .i64 k] W (WritePost (pcsOf k fin t) W) := by
 obtain ⟨B, o, rfl⟩ : ∃ B o, v = .pointer (some ⟨B, o, none⟩) := by obtain ⟨B, o, _, _, _, rfl, _⟩ := h; exact ⟨B, o, rfl⟩
 have HR := Lib.hid (Runes_ok t (by omega) W)
 obtain ⟨s, hs⟩ : ∃ s : ByteArray, (⟨t.toArray⟩ : ByteArray) = s := ⟨_, rfl⟩
 rw [hs] at HR ⊢
 have hss : s.size = t.length := size_mk t s hs
 have HS := Lib.hid hs; have HO := Lib.hid h; have HT := Lib.hid hT; have HSS := Lib.hid hss; have HK := Lib.hid hk
 clear hs h hT hss hk
 obtain ⟨i0, hI0, hz0, hz1, hz2⟩ := info_parts piece_info
 go_enter Tryz.func23, Tryz.ntmps23
 go_wp2_with (go_at_call 42; refine HR.out.mono ?_; rintro e w1 ⟨v7, rfl, hsl, hb1⟩; obtain ⟨A7, c7, rfl, _⟩ := id hsl; have HSL := Lib.hid hsl; have HB1 := Lib.hid hb1; clear hsl hb1)
 go_loopw [8, 9] (fun vl vi wr => ∃ e n acc, vi = .int .i64 (acc : List Pc).length ∧ WL w1 s vl e acc wr ∧ e ≤ t.length ∧ t.length < n + e + 1 ∧ acc.length ≤ e ∧ acc ++ pcs (encW k fin) t n acc.length e = pcsOf k fin t ∧ acc.length + (marksFrom t n e).length = (marks t).length) (fun _ _ wr => s.size - wr.iterPos w1.heap.size)
 case atStart =>
  exact ⟨0, t.length, [], rfl, ⟨(Below.refl _ w1).alloc (Nat.le_refl _) _, World.iter_heap w1 s 0, ⟨rfl, .inl ⟨rfl, rfl⟩⟩⟩, Nat.zero_le _, by omega, Nat.le_refl _, rfl, by simp [marks]⟩
 case round =>
  obtain ⟨e, n, acc, rfl, hWL, he, hne, hae, hl, hm⟩ := hrel
  obtain ⟨A8, c8, rfl, _⟩ := own_slice3 hWL.own
  have hit := hWL.it
  have hss := HSS.out
  obtain ⟨m, hm'⟩ : ∃ m, acc.length = m := ⟨_, rfl⟩
  rw [hm'] at hae hl hm hWL ⊢
  have HW := Lib.hid hWL; clear hWL
  by_cases hlt : e < s.size
  ·have hlt2 : e < t.length := by omega
   obtain ⟨n', rfl⟩ : ∃ n', n = n' + 1 := ⟨n - 1, by omega⟩
   have hnx := fun ty => run_next_any_at (P := Tryz.prog) wr _ s e ty hit hlt
   rw [decode_drop t e s HS.out] at hnx
   have hne2 : t.drop e ≠ [] := by intro c; rw [List.drop_eq_nil_iff] at c; omega
   have hd1 := dec_pos (t.drop e)
   have hd2 := dec_le (t.drop e) hne2
   rw [List.length_drop] at hd2
   unfold pcs at hl
   unfold marksFrom at hm
   rw [if_pos hlt2] at hl hm
   rw [List.length_cons] at hm
   obtain ⟨r, hr⟩ : ∃ r, (dec (t.drop e)).1 = r := ⟨_, rfl⟩
   obtain ⟨wd, hwd⟩ : ∃ wd, (dec (t.drop e)).2 = wd := ⟨_, rfl⟩
   rw [hwd] at hd1 hd2 hm hl
   rw [hr] at hl
   rw [hr, hwd] at hnx
   obtain ⟨ew, hew⟩ : ∃ ew, e + wd = ew := ⟨_, rfl⟩
   rw [hew] at hnx hl hm
   obtain ⟨m1, hm1⟩ : ∃ m1, m + 1 = m1 := ⟨_, rfl⟩
   have hwm : wrap64 ((m : Int) + 1) = (m1 : Int) := by unfold wrap64; omega
   obtain ⟨e1, he1⟩ : ∃ e1, e + 1 = e1 := ⟨_, rfl⟩
   have hwr : wrap64 ((e : Int) + 1) = (e1 : Int) := by unfold wrap64; omega
   have hx1 := pc_ext t e s HS.out
   have hx2 := pc_ext1 t e s HS.out
   rw [he1] at hx2
   have hi0 : (0 : Int) ≤ e := Int.natCast_nonneg e
   have hi1 : (e : Int) ≤ s.size := Int.ofNat_le.2 (Nat.le_of_lt hlt)
   have hi2 : (e : Int) ≤ e1 := Int.ofNat_le.2 (he1 ▸ Nat.le_succ e)
   have hi3 : (e1 : Int) ≤ s.size := Int.ofNat_le.2 (he1 ▸ hlt)
   have hml : m < (runesOf t).length := by unfold runesOf; rw [List.length_map, ← hm]; exact Nat.lt_add_of_pos_right (Nat.succ_pos _)
   have hone : Folds.one (encW k fin m) (t.drop e) = if r = 65533 ∧ wd = 1 then (t.drop e).take 1 else encW k fin m r := by unfold Folds.one; rw [hr, hwd]
   have HONE := Lib.hid hone; have HML := Lib.hid hml; have HNE := Lib.hid hne2; have HR2 := Lib.hid hr; have HWD := Lib.hid hwd; have HL := Lib.hid hl; have HM := Lib.hid hm; have HEW := Lib.hid hew; have HM1 := Lib.hid hm1; have HWM := Lib.hid hwm; have HLEN := Lib.hid (LEN m hae he hn)
   have hsa : ∀ W, (Instr.slice 9 (.string s) (some (.int .i64 (e : Int))) none none).run Tryz.prog W = .ok (.string ⟨(t.drop e).toArray⟩) W := fun W => by
    rw [run_slice_string_from_if _ _ _ _ _ Tryz.underlying9, if_pos ⟨hi0, hi1⟩, Int.toNat_natCast, hx1]
   have hsb : ∀ W, (Instr.slice 9 (.string s) (some (.int .i64 (e : Int))) (some (.int .i64 (wrap64 ((e : Int) + 1)))) none).run Tryz.prog W = .ok (.string ⟨((t.drop e).take 1).toArray⟩) W := fun W => by
    rw [hwr, run_slice_string _ _ _ _ _ _ _ Tryz.underlying9 hi0 hi2 hi3, Int.toNat_natCast, Int.toNat_natCast, hx2]
   have HD := Lib.hid (And.intro hd1 hd2)
   have HC := Lib.hid (HW.out.iter (e' := ew))
   have HM2 := Lib.hid hm'
   rw [hm1] at HL
   clear hone hml hne2 hr hwd hl hm hew hd1 hd2 hm' hm1 hwm
   have key : ∀ X : List UInt8, Folds.one (encW k fin m) (t.drop e) = X → ∀ (A' : Option Addr) (c' : Nat) (w' : World), WL w1 s (.slice A' m1 c') ew (acc ++ [(e, r, X)]) w' →
    (∃ e n acc', Value.int .i64 (m1 : Int) = .int .i64 (acc' : List Pc).length ∧ WL w1 s (.slice A' m1 c') e acc' w' ∧ e ≤ t.length ∧ t.length < n + e + 1 ∧ acc'.length ≤ e ∧ acc' ++ pcs (encW k fin) t n acc'.length e = pcsOf k fin t ∧ acc'.length + (marksFrom t n e).length = (marks t).length) ∧ s.size - w'.iterPos w1.heap.size < s.size - wr.iterPos w1.heap.size := by
    intro X hX A' c' w' hw
    clear hnx hwr hx1 hx2 hi0 hi1 hi2 hi3 hsa hsb
    have hd := HD.out; have hew := HEW.out; have hm' := HM2.out; have hm1 := HM1.out
    have hlen : (acc ++ [(e, r, X)]).length = m1 := by simp [hm', hm1]
    refine ⟨⟨ew, n', acc ++ [(e, r, X)], by rw [hlen], hw, by omega, by omega, by rw [hlen]; omega, ?_, ?_⟩, ?_⟩
    ·rw [hlen, ← HL.out, hX, List.append_assoc]; rfl
    ·rw [hlen]; have := HM.out; omega
    ·have q1 : w'.iterPos w1.heap.size = ew := by unfold World.iterPos; rw [hw.it]
     have q2 : wr.iterPos w1.heap.size = e := by unfold World.iterPos; rw [HW.out.it]
     rw [q1, q2]; omega
   have KEY := Lib.hid key; clear key hwr hx1 hx2 hi0 hi1 hi2 hi3 he hne hae hn hss he1
   have hcases : r ≠ 65533 ∨ (r = 65533 ∧ wd = 1) ∨ (r = 65533 ∧ wd ≠ 1) := by
    by_cases d : r = 65533
    ·by_cases e : wd = 1
     ·exact .inr (.inl ⟨d, e⟩)
     ·exact .inr (.inr ⟨d, e⟩)
    ·exact .inl d
   rcases hcases with c2 | ⟨rfl, rfl⟩ | ⟨rfl, c3⟩
   ·have d1 : decide ((k : Int) = 0) = false := decide_eq_false (by omega)
    have d2 : decide ((r : Int) = 65533) = false := decide_eq_false (by omega)
    go_wp2_with (first
     | (go_at_call 44
        refine (form_ok r k HK.out _ _ (openP_below HO.out (HB1.out.trans (HC.out.bel.mono HB1.out.size)))).mono ?_
        rintro x wz ⟨v2, rfl, hs2, hb2⟩
        have HS2 := Lib.hid hs2; have HC := Lib.hid (HC.out.below hb2); clear hs2 hb2)
     | (go_at_call 43
        refine (Text_ok (formV r k) _ _ HS2.out (Nat.le_trans (formV_len r k) (by decide))).mono ?_
        rintro x wz ⟨rfl, hb3⟩
        have HC := Lib.hid (HC.out.below hb3); clear hb3)
     | (go_at_call 29
        refine (Decode_ok (t.drop e) HNE.out _ (tabs_below (HB1.out.trans (HC.out.bel.mono HB1.out.size)) HT.out)).mono ?_
        rintro x wz ⟨rfl, hb5⟩
        rw [HR2.out, HWD.out]
        have HC := Lib.hid (HC.out.below hb5); clear hb5)
     | (at_builtin
        (refine wpList_append_lies _ rfl (.tmp 56) (.tmp 61) 58 rfl w1.heap.size 77 i0 _ 3 32 Tryz.underlying58 hI0 hz0 hz1 hz2 rfl (by decide) (.slice A8 m c8) m (piecesV acc) rfl (own_alloc HC.out.own') ⟨wz.heap.size, 0, none⟩ 1 1 [.int .i64 e, .int .i32 r, .string ⟨(encL (formV r k)).toArray⟩] rfl rfl (piece_cells _ _ _ _ _) (piece_cell1 _ _ _) (by decide) HLEN.out.1 HLEN.out.2 (alloc_base HC.out.bel.size) _ rfl ?_)
        intro g cap wq ho hg hl hs
        rw [HM1.out] at ho ⊢
        have HG := Lib.hid (WL.grown HC.out ho hg); clear ho hg hl hs hnx hsa hsb hit hlt hlt2))
    rw [HWM.out]
    exact KEY.out (encL (formV r k)) (by rw [HONE.out, if_neg (fun h => c2 h.1)]; unfold encW; rw [if_neg (fun h => c1 h.1.1)]) _ _ _ HG.out
   ·have d1 : decide ((k : Int) = 0) = false := decide_eq_false (by omega)
    go_wp2_with (first
     | (go_at_call 44
        refine (form_ok 65533 k HK.out _ _ (openP_below HO.out (HB1.out.trans (HC.out.bel.mono HB1.out.size)))).mono ?_
        rintro x wz ⟨v2, rfl, hs2, hb2⟩
        have HS2 := Lib.hid hs2; have HC := Lib.hid (HC.out.below hb2); clear hs2 hb2)
     | (go_at_call 43
        refine (Text_ok (formV 65533 k) _ _ HS2.out (Nat.le_trans (formV_len 65533 k) (by decide))).mono ?_
        rintro x wz ⟨rfl, hb3⟩
        have HC := Lib.hid (HC.out.below hb3); clear hb3)
     | (go_at_call 29
        refine (Decode_ok (t.drop e) HNE.out _ (tabs_below (HB1.out.trans (HC.out.bel.mono HB1.out.size)) HT.out)).mono ?_
        rintro x wz ⟨rfl, hb5⟩
        rw [HR2.out, HWD.out]
        have HC := Lib.hid (HC.out.below hb5); clear hb5)
     | (at_builtin
        (refine wpList_append_lies _ rfl (.tmp 56) (.tmp 61) 58 rfl w1.heap.size 77 i0 _ 3 32 Tryz.underlying58 hI0 hz0 hz1 hz2 rfl (by decide) (.slice A8 m c8) m (piecesV acc) rfl (own_alloc HC.out.own') ⟨wz.heap.size, 0, none⟩ 1 1 [.int .i64 e, .int .i32 65533, .string ⟨((t.drop e).take 1).toArray⟩] rfl rfl (piece_cells _ _ _ _ _) (piece_cell1 _ _ _) (by decide) HLEN.out.1 HLEN.out.2 (alloc_base HC.out.bel.size) _ rfl ?_)
        intro g cap wq ho hg hl hs
        rw [HM1.out] at ho ⊢
        have HG := Lib.hid (WL.grown HC.out ho hg); clear ho hg hl hs hnx hsa hsb hit hlt hlt2))
    rw [HWM.out]
    exact KEY.out ((t.drop e).take 1) (by rw [HONE.out, if_pos (by simp)]) _ _ _ HG.out
   ·have d1 : decide ((k : Int) = 0) = false := decide_eq_false (by omega)
    have d3 : decide ((wd : Int) = 1) = false := decide_eq_false (by omega)
    go_wp2_with (first
     | (go_at_call 44
        refine (form_ok 65533 k HK.out _ _ (openP_below HO.out (HB1.out.trans (HC.out.bel.mono HB1.out.size)))).mono ?_
        rintro x wz ⟨v2, rfl, hs2, hb2⟩
        have HS2 := Lib.hid hs2; have HC := Lib.hid (HC.out.below hb2); clear hs2 hb2)
     | (go_at_call 43
        refine (Text_ok (formV 65533 k) _ _ HS2.out (Nat.le_trans (formV_len 65533 k) (by decide))).mono ?_
        rintro x wz ⟨rfl, hb3⟩
        have HC := Lib.hid (HC.out.below hb3); clear hb3)
     | (go_at_call 29
        refine (Decode_ok (t.drop e) HNE.out _ (tabs_below (HB1.out.trans (HC.out.bel.mono HB1.out.size)) HT.out)).mono ?_
        rintro x wz ⟨rfl, hb5⟩
        rw [HR2.out, HWD.out]
        have HC := Lib.hid (HC.out.below hb5); clear hb5)
     | (at_builtin
        (refine wpList_append_lies _ rfl (.tmp 56) (.tmp 61) 58 rfl w1.heap.size 77 i0 _ 3 32 Tryz.underlying58 hI0 hz0 hz1 hz2 rfl (by decide) (.slice A8 m c8) m (piecesV acc) rfl (own_alloc HC.out.own') ⟨wz.heap.size, 0, none⟩ 1 1 [.int .i64 e, .int .i32 65533, .string ⟨(encL (formV 65533 k)).toArray⟩] rfl rfl (piece_cells _ _ _ _ _) (piece_cell1 _ _ _) (by decide) HLEN.out.1 HLEN.out.2 (alloc_base HC.out.bel.size) _ rfl ?_)
        intro g cap wq ho hg hl hs
        rw [HM1.out] at ho ⊢
        have HG := Lib.hid (WL.grown HC.out ho hg); clear ho hg hl hs hnx hsa hsb hit hlt hlt2))
    rw [HWM.out]
    exact KEY.out (encL (formV 65533 k)) (by rw [HONE.out, if_neg (fun h => c3 h.2)]; unfold encW; rw [if_neg (fun h => c1 h.1.1)]; rfl) _ _ _ HG.out
  ·have hnx := fun ty => run_next_end_at (P := Tryz.prog) wr _ s e ty hit hlt
   have hee : e = t.length := by omega
   have hz : pcs (encW k fin) t n m e = [] := by
    subst hee
    cases n with
    | zero => rfl
    | succ n' => show (if t.length < t.length then _ else _) = _; rw [if_neg (Nat.lt_irrefl _)]
   rw [hz, List.append_nil] at hl
   have HL := Lib.hid hl; have HM2 := Lib.hid hm'
   clear hl hz hm hm' he hne hae hss hee hn
   go_wp2
   go_ret
   refine ⟨_, rfl, ?_, HB1.out.trans (HW.out.bel.mono HB1.out.size)⟩
   rw [← HL.out, HM2.out]
   exact own_base HW.out.own' (fun g hg => Nat.le_trans HB1.out.size (own_lt HW.out.own' hg).1)
end
section
open Go.Shelf Go.RowKit Go.Lib Go.Proofs.YtmpkgddioiaonaaGreatDoor.Am
def Tryz.lays169_ren : Go.Shelf.Ren := ⟨fun | 169 => 34 | n => n, fun | 70 => 73 | 9 => 9 | 0 => 0 | 72 => 75 | 37 => 38 | 127 => 114 | 3 => 3 | 5 => 5 | n => n, fun | n => n⟩
theorem Tryz.lays169 : Go.Proofs.Lays.n169 Tryz.prog Tryz.lays169_ren := {
 mixed := by kernel_rfl
 f169 := Tryz.func34.trans (congrArg some (by kernel_rfl))
 t0 := Tryz.underlying0
 a0 := Tryz.isAgg0
 z0 := Tryz.sizeOf0
 v0 := Tryz.zeroValue0
 t3 := Tryz.underlying3
 a3 := Tryz.isAgg3
 z3 := Tryz.sizeOf3
 v3 := Tryz.zeroValue3
 t9 := Tryz.underlying9
 a9 := Tryz.isAgg9
 z9 := Tryz.sizeOf9
 v9 := Tryz.zeroValue9
 t37 := Tryz.underlying38
 a37 := Tryz.isAgg38
 z37 := Tryz.sizeOf38
 v37 := Tryz.zeroValue38
 t70 := Tryz.underlying73
 a70 := Tryz.isAgg73
 z70 := Tryz.sizeOf73
 v70 := Tryz.zeroValue73
 t72 := Tryz.underlying75
 a72 := Tryz.isAgg75
 z72 := Tryz.sizeOf75
 v72 := Tryz.zeroValue75
 t127 := Tryz.underlying114
 a127 := Tryz.isAgg114
 z127 := Tryz.sizeOf114
 v127 := Tryz.zeroValue114 }
theorem bldX169 : Builder.Extra Tryz.prog Tryz.lays169_ren := {
 sizeBuilder := by kernel_rfl
 liesBuilder := by kernel_rfl
 t5 := Tryz.underlying5
 a5 := Tryz.isAgg5
 z5 := Tryz.sizeOf5
 v5 := Tryz.zeroValue5
 infoByte := by kernel_rfl
 cellsByte := by kernel_rfl
 sizeByte := by kernel_rfl
 neB5 := by decide
 }
theorem bld_size : (Tryz.prog.info? 75).map (fun i => i.size) = some 2 := by kernel_rfl
theorem bld_lies : liesAt Tryz.prog Tryz.prog.depth 75 (2 / Tryz.prog.cellsOf 75) 0 75 1 = true := by kernel_rfl
set_option maxHeartbeats 1000000 in
set_option maxRecDepth 100000 in
theorem check_used (b : Nat) (w : World) (h0 : w.cell? ⟨b, 0, none⟩ = some (.pointer (some ⟨b, 0, none⟩))) :
 Calls Tryz.prog 57 #[.pointer (some ⟨b, 0, none⟩)] w fun e w' => e = .returned (.tuple #[]) ∧ w' = w := by
 obtain ⟨j, hj, _⟩ := Option.map_eq_some_iff.1 bld_size
 go_enter Tryz.func57, Tryz.ntmps57
 go_wp2
 rw [Lib.run_neq_ptr_same w _ Tryz.underlying73 hj]
 go_wp2
 go_end0
 exact ⟨rfl, rfl⟩
set_option maxHeartbeats 1000000 in
set_option maxRecDepth 100000 in
theorem check_fresh (b : Nat) (w : World) (h0 : w.cell? ⟨b, 0, none⟩ = some (.pointer none)) (hsh : w.shape? b = some (75, 2)) (hfz : w.frozen? ⟨b, 0, none⟩ = false) :
 Calls Tryz.prog 57 #[.pointer (some ⟨b, 0, none⟩)] w fun e w' => e = .returned (.tuple #[]) ∧ w' = w.setCell ⟨b, 0, none⟩ (.pointer (some ⟨b, 0, none⟩)) := by
 obtain ⟨j, hj, hjs⟩ := Option.map_eq_some_iff.1 bld_size
 go_enter Tryz.func57, Tryz.ntmps57
 go_wp2
 rw [Lib.run_to_unsafe w ⟨b, 0, none⟩ Tryz.underlying73 Tryz.underlying141 hj (by rw [hjs]; decide) hsh (Nat.zero_lt_succ 1)]
 simp only [Result.andThen]
 rw [Oper.upon_value]
 go_wp2
 rw [run_callFunc_extern Tryz.func84 (by kernel_rfl) (by kernel_rfl) (by kernel_rfl) (e := Extern.AbiNoEscape.same) (by kernel_rfl), Lib.run_noEscape]
 simp only [Result.andThen]
 rw [Oper.upon_value]
 go_wp2
 rw [Lib.run_from_unsafe w ⟨b, 0, none⟩ Tryz.underlying141 Tryz.underlying73 hj hsh bld_lies]
 simp only [Result.andThen]
 rw [Oper.upon_value]
 go_wp2
 go_end0
 exact ⟨rfl, rfl⟩
theorem check_ok (B b : Nat) (bs : List Value) (w : World) (h : IsBuilderF 75 5 B b bs w) :
 Calls Tryz.prog 57 #[.pointer (some ⟨b, 0, none⟩)] w fun e w' => e = .returned (.tuple #[]) ∧ BuilderAtF 75 5 B b (.pointer (some ⟨b, 0, none⟩)) bs w' ∧ Below B w w' := by
 rcases h with h | h
 ·refine (check_fresh b w h.cell0 h.shape h.frozen0).mono ?_
  rintro e w' ⟨rfl, rfl⟩
  exact ⟨rfl, h.used _, (Below.refl B w).setCell (p := ⟨b, 0, none⟩) h.1 _⟩
 ·refine (check_used b w h.cell0).mono ?_
  rintro e w' ⟨rfl, rfl⟩
  exact ⟨rfl, h, Below.refl B _⟩
set_option maxHeartbeats 2000000 in
set_option maxRecDepth 100000 in
theorem WriteString_ok (B : Nat) (a l : List UInt8) (w : World) (h : IsBuilderF 75 5 B B (byteCells a) w) (hlen : a.length + l.length ≤ 140737488355328) (hBw : B ≤ w.heap.size) :
 Calls Tryz.prog 33 #[.pointer (some ⟨B, 0, none⟩), .string ⟨l.toArray⟩] w fun e w' => (∃ v, e = .returned v) ∧ IsBuilderF 75 5 B B (byteCells (a ++ l)) w' ∧ Below B w w' := by
 have hl : a.length = (byteCells a).length := by rw [byteCells_length]
 rw [hl] at hlen
 have hcat : byteCells (a ++ l) = byteCells a ++ strCells ⟨l.toArray⟩ := by rw [byteCells_append, strCells_eq]
 rw [hcat]
 obtain ⟨s, hs⟩ : ∃ s : ByteArray, (⟨l.toArray⟩ : ByteArray) = s := ⟨_, rfl⟩
 have hss : s.size = l.length := size_mk l s hs
 rw [← hss] at hlen
 rw [hs]
 obtain ⟨bs, hbs⟩ : ∃ bs, byteCells a = bs := ⟨_, rfl⟩
 rw [hbs] at h hlen ⊢
 clear hs hss hl hcat hbs
 obtain ⟨i0, hi, hz0, hz1, hz2⟩ := info_parts byte_info
 go_enter Tryz.func33, Tryz.ntmps33
 go_wp2_with (go_at_call 57; refine (check_ok B B bs _ h).mono ?_)
 rintro e w1 ⟨rfl, h1, hb1⟩
 obtain ⟨hB, v, hbk, hown, hne⟩ := h1
 have c0 : w1.cell? ⟨B, 0, none⟩ = some (.pointer (some ⟨B, 0, none⟩)) := by rw [Lib.cell_of_heap hbk]; rfl
 have c1 : w1.cell? ⟨B, 1, none⟩ = some v := by rw [Lib.cell_of_heap hbk]; rfl
 go_wp2_with (at_builtin; refine Lib.wpList_append_own_stringF _ rfl _ _ 38 9 rfl B 5 i0 Tryz.underlying38 Tryz.underlying9 hi hz0 hz1 hz2 _ _ _ rfl hown s rfl ?c3 ?c4 ?c5 ?_)
 case c3 => unfold maxLen; omega
 case c4 => omega
 case c5 => have := hb1.size; omega
 intro v' w2 hown' hgrow _
 have hlt : B < w1.heap.size := heap_lt hbk
 have hb2 : w2.heap[B]? = some (.cells #[.pointer (some ⟨B, 0, none⟩), v] 75 (0, 0)) := (hgrow.block B hlt (fun e => hne e.symm)).trans hbk
 have d0 : w2.cell? ⟨B, 0, none⟩ = some (.pointer (some ⟨B, 0, none⟩)) := by rw [Lib.cell_of_heap hb2]; rfl
 have d1 : w2.cell? ⟨B, 1, none⟩ = some v := by rw [Lib.cell_of_heap hb2]; rfl
 have f1 : w2.frozen? ⟨B, 1, none⟩ = false := Lib.frozen_of_heap hb2 1
 obtain ⟨ao, n', cap, rfl⟩ : ∃ ao n' cap, v' = .slice ao n' cap := by
  rcases hown'.2 with ⟨hv, _⟩ | ⟨g, cap, cur, fz, hv, _⟩
  ·exact ⟨_, _, _, hv⟩
  ·exact ⟨_, _, _, hv⟩
 go_wp2
 go_ret2
 refine ⟨⟨_, rfl⟩, Or.inr ?_, ?_⟩
 ·exact Lib.BuilderAtF.put (T := 75) (e := 5) hB hb2 (bs' := bs ++ Lib.strCells s) (by simpa [Lib.strCells_length] using hown') (by decide)
 ·exact (hb1.grown hgrow (by have := hb1.size; omega) (fun k hk => (hown.lt k hk).1)).setCell (p := ⟨B, 1, none⟩) hB _
theorem String_ok (B : Nat) (a : List UInt8) (w : World) (h : IsBuilderF 75 5 B B (byteCells a) w) (hBw : B ≤ w.heap.size) :
 Calls Tryz.prog 34 #[.pointer (some ⟨B, 0, none⟩)] w fun e w' => e = .returned (.string ⟨a.toArray⟩) ∧ Below B w w' := by
 refine (Any.Builder_String_any_k Tryz.lays169 bldX169 B B a w h hBw).mono ?_
 rintro e w' ⟨rfl, _, h2, _⟩
 exact ⟨rfl, h2⟩
def catP (l : List Pc) : List UInt8 := l.flatMap (·.2.2)
theorem piecesV_len (l : List Pc) : (piecesV l).length = l.length * 3 := by
 induction l with
 | nil => rfl
 | cons a l ih => show (_ ++ piecesV l).length = _; rw [List.length_append, ih]; simp; omega
def pc0 : Pc := (0, 0, [])
theorem piecesV_get : ∀ (l : List Pc) (k : Nat), k < l.length → (piecesV l)[k * 3]? = some (.int .i64 (l.getD k pc0).1) ∧ (piecesV l)[k * 3 + 1]? = some (.int .i32 (l.getD k pc0).2.1) ∧ (piecesV l)[k * 3 + 2]? = some (.string ⟨(l.getD k pc0).2.2.toArray⟩)
 | [], k, h => by simp at h
 | a :: l, 0, _ => ⟨rfl, rfl, rfl⟩
 | a :: l, k + 1, h => by
   have := piecesV_get l k (by simpa using h)
   have e : ∀ j, (piecesV (a :: l))[(k + 1) * 3 + j]? = (piecesV l)[k * 3 + j]? := fun j => by
    show ([Value.int .i64 a.1, .int .i32 a.2.1, .string ⟨a.2.2.toArray⟩] ++ piecesV l)[(k + 1) * 3 + j]? = _
    rw [List.getElem?_append_right (by simp; omega)]
    congr 1
    simp; omega
   rw [e 1, e 2, show (k + 1) * 3 = (k + 1) * 3 + 0 from rfl, e 0]
   exact this
theorem catP_take (l : List Pc) {k : Nat} (hk : k < l.length) : catP (l.take (k + 1)) = catP (l.take k) ++ (l.getD k pc0).2.2 := by
 rw [List.take_succ_eq_append_getElem hk]
 unfold catP
 rw [List.flatMap_append, List.getD_eq_getElem?_getD, List.getElem?_eq_getElem hk]
 simp
theorem catP_le (l : List Pc) (k : Nat) : (catP (l.take k)).length ≤ (catP l).length := by
 conv => rhs; rw [← List.take_append_drop k l]
 unfold catP
 rw [List.flatMap_append, List.length_append]; omega
def JoinedPost (l : List Pc) (W : World) (e : Ending) (w' : World) : Prop := e = .returned (.string ⟨(catP l).toArray⟩) ∧ Below W.heap.size W w'
set_option maxHeartbeats 2000000 in
set_option maxRecDepth 100000 in
theorem joined_at (l : List Pc) (g off c n : Nat) (W : World) (hn : l.length = n) (hsm : n ≤ 1000000) (hcat : (catP l).length ≤ 1000000000)
 (hc : ∀ k, k < n → W.cell? ⟨g, off + k * 3, none⟩ = some (.int .i64 (l.getD k pc0).1) ∧ W.cell? ⟨g, off + k * 3 + 1, none⟩ = some (.int .i32 (l.getD k pc0).2.1) ∧ W.cell? ⟨g, off + k * 3 + 2, none⟩ = some (.string ⟨(l.getD k pc0).2.2.toArray⟩)) :
 Calls Tryz.prog 21 #[.slice (some ⟨g, off, none⟩) n c] W (JoinedPost l W) := by
 have HC := Lib.hid hc; have HN := Lib.hid hn; have HCAT := Lib.hid hcat
 clear hc hn hcat
 go_enter Tryz.func21, Tryz.ntmps21
 go_wp2
 go_loopw [8] (fun i wr => ∃ k : Nat, k ≤ n ∧ i = .int .i64 k ∧ IsBuilderF 75 5 W.heap.size W.heap.size (byteCells (catP (l.take k))) wr ∧ Below W.heap.size W wr) (fun i _ => n - (RowKit.intOf i).toNat)
 case atStart => exact ⟨0, Nat.zero_le _, rfl, IsBuilderF.of (fresh_isBuilder _ _ W), (Below.refl _ W).alloc (Nat.le_refl _) _⟩
 case round =>
  obtain ⟨k, hk, rfl, hI, hb⟩ := hrel
  have HI := Lib.hid hI; have HB := Lib.hid hb; clear hI hb
  by_cases hlt : k < n
  ·obtain ⟨f0, f1, f2⟩ := HC.out k hlt
   have hg := cell_lt f0
   have g0 : wr.cell? ⟨g, off + k * 3, none⟩ = _ := (HB.out.cell (p := ⟨g, off + k * 3, none⟩) hg).trans f0
   have g1 : wr.cell? ⟨g, off + k * 3 + 1, none⟩ = _ := (HB.out.cell (p := ⟨g, off + k * 3 + 1, none⟩) hg).trans f1
   have g2 : wr.cell? ⟨g, off + k * 3 + 2, none⟩ = _ := (HB.out.cell (p := ⟨g, off + k * 3 + 2, none⟩) hg).trans f2
   have HT := Lib.hid (catP_take l (k := k) (by rw [HN.out]; exact hlt))
   obtain ⟨p, hp⟩ : ∃ p, l.getD k pc0 = p := ⟨_, rfl⟩
   rw [hp] at g0 g1 g2 HT
   clear hp f0 f1 f2 hg
   obtain ⟨pa, pr, px⟩ := p
   dsimp only at g0 g1 g2 HT
   have HL := Lib.hid (show (catP (l.take k)).length + px.length ≤ 140737488355328 by
    have h1 := catP_le l (k + 1)
    rw [HT.out, List.length_append] at h1
    have h2 := HCAT.out
    omega)
   go_wp2_with (go_at_call 33
                refine (WriteString_ok W.heap.size (catP (l.take k)) px _ (HI.out.alloc _) HL.out (alloc_base HB.out.size)).mono ?_
                rintro x wz ⟨⟨vz, rfl⟩, hI2, hb2⟩
                have HI2 := Lib.hid hI2; have HB2 := Lib.hid ((HB.out.alloc HB.out.size _).trans hb2); clear hI2 hb2)
   refine ⟨⟨k + 1, hlt, by go_num, ?_, HB2.out⟩, by simp [RowKit.intOf]; omega⟩
   rw [HT.out]; exact HI2.out
  ·obtain rfl : k = n := by omega
   have htk : l.take k = l := List.take_of_length_le (by rw [HN.out]; exact Nat.le_refl _)
   rw [htk] at HI
   clear htk
   go_wp2_with (go_at_call 34
                refine (String_ok W.heap.size (catP l) _ HI.out HB.out.size).mono ?_
                rintro x wz ⟨rfl, hb2⟩
                have HB2 := Lib.hid (HB.out.trans hb2); clear hb2)
   go_ret
   exact ⟨rfl, HB2.out⟩
end
section
open Go.Shelf Go.RowKit Go.Lib Go.Proofs.YtmpkgddioiaonaaGreatDoor.Am
open Folds (dec dec_pos dec_le)
/-- a text written in a form that asks of the rune alone -/
def wr (k : Nat) (t : List UInt8) : List UInt8 := Folds.wrt (fun r => encL (formV r k)) t
theorem catP_pcs (enc : Nat → Nat → List UInt8) (e1 : Nat → List UInt8) (h : ∀ i r, enc i r = e1 r) (t : List UInt8) : ∀ n i e, catP (pcs enc t n i e) = Folds.out e1 n (t.drop e)
 | 0, _, _ => rfl
 | n + 1, i, e => by
   show catP (if e < t.length then _ else _) = (if t.drop e = [] then _ else _)
   by_cases c : e < t.length
   ·have hne : t.drop e ≠ [] := by intro d; rw [List.drop_eq_nil_iff] at d; omega
    rw [if_pos c, if_neg hne, List.drop_drop]
    show _ ++ catP _ = _
    rw [catP_pcs enc e1 h t n (i + 1)]
    have : Folds.one (enc i) (t.drop e) = Folds.one e1 (t.drop e) := by unfold Folds.one; rw [h]
    rw [← this]
   ·rw [if_neg c, if_pos (by rw [List.drop_eq_nil_iff]; omega)]
    rfl
theorem catP_wr (k : Nat) (hk : k ≠ 0) (fin : Nat → Bool) (t : List UInt8) : catP (pcsOf k fin t) = wr k t := by
 unfold pcsOf wr Folds.wrt
 rw [catP_pcs _ (fun r => encL (formV r k)) (fun i r => by unfold encW; rw [if_neg (fun h => hk h.1.1)]) t t.length 0 0, List.drop_zero]
theorem encW_len (k : Nat) (fin : Nat → Bool) (i r : Nat) : (encW k fin i r).length ≤ 12 := by
 unfold encW
 split
 ·simp
 ·exact Nat.le_trans (encL_len _) (by have := formV_len r k; omega)
theorem pcs_len (enc : Nat → Nat → List UInt8) (h : ∀ i r, (enc i r).length ≤ 12) (t : List UInt8) : ∀ n i e, (catP (pcs enc t n i e)).length ≤ 12 * n ∧ (pcs enc t n i e).length ≤ n
 | 0, _, _ => ⟨Nat.le_refl _, Nat.le_refl _⟩
 | n + 1, i, e => by
   show (catP (if e < t.length then _ else _)).length ≤ _ ∧ (if e < t.length then _ else _ : List Pc).length ≤ _
   by_cases c : e < t.length
   ·rw [if_pos c]
    obtain ⟨h1, h2⟩ := pcs_len enc h t n (i + 1) (e + (dec (t.drop e)).2)
    have h3 : (Folds.one (enc i) (t.drop e)).length ≤ 12 := by
     unfold Folds.one
     split
     ·rw [List.length_take]; omega
     ·exact h _ _
    refine ⟨?_, by simp only [List.length_cons]; omega⟩
    show (Folds.one (enc i) (t.drop e) ++ catP _).length ≤ _
    rw [List.length_append]
    omega
   ·rw [if_neg c]; exact ⟨Nat.zero_le _, Nat.zero_le _⟩
theorem joined_ok (l : List Pc) (v : Value) (base : Nat) (W : World) (h : W.ownsRow base 77 3 v l.length (piecesV l)) (hsm : l.length ≤ 1000000) (hcat : (catP l).length ≤ 1000000000) :
 Calls Tryz.prog 21 #[v] W (JoinedPost l W) := by
 rcases h.2 with ⟨h2, h0⟩ | ⟨g, cap, cur, hv, hbg, hg, hnc, hcm, hcs, htk⟩
 ·subst h2
  obtain rfl : l = [] := List.eq_nil_of_length_eq_zero h0
  go_enter Tryz.func21, Tryz.ntmps21
  go_wp2_with fail
  go_loopw [8] (fun i wr => i = .int .i64 (0 : Nat) ∧ IsBuilderF 75 5 W.heap.size W.heap.size (byteCells []) wr ∧ Below W.heap.size W wr) (fun _ _ => 0)
  case atStart => exact ⟨rfl, IsBuilderF.of (fresh_isBuilder _ _ W), (Below.refl _ W).alloc (Nat.le_refl _) _⟩
  case round =>
   obtain ⟨rfl, hI, hb⟩ := hrel
   go_wp2_with (go_at_call 34
                refine (String_ok W.heap.size [] _ hI hb.size).mono ?_
                rintro x wz ⟨rfl, hb2⟩)
   go_ret
   exact ⟨rfl, hb.trans hb2⟩
 ·have hr := World.ownsRow.cells (g := g) h (by rw [hv]; rfl)
  rw [hv]
  refine joined_at l g 0 cap l.length W rfl hsm hcat fun k hk => ?_
  obtain ⟨f0, f1, f2⟩ := piecesV_get l k hk
  have c0 := hr _ _ f0; have c1 := hr _ _ f1; have c2 := hr _ _ f2
  rw [add_none] at c0 c1 c2
  exact ⟨c0, c1, c2⟩
/-- what open() is to do -/
def OpensP (w : World) : Prop := Calls Tryz.prog 22 #[] w fun e w' => ∃ v, e = .returned v ∧ OpenP w' v ∧ Below w.heap.size w w'
def WrPost (k : Nat) (t : List UInt8) (W : World) (e : Ending) (w' : World) : Prop := e = .returned (.string ⟨(wr k t).toArray⟩) ∧ Below W.heap.size W w'
set_option maxRecDepth 100000 in
theorem Fold_ok (t : List UInt8) (W : World) (ho : OpensP W) (hT : Lib.Utf8Tabs 1 2 W) (hn : t.length ≤ 10000) : Calls Tryz.prog 13 #[.string ⟨t.toArray⟩] W (WrPost 3 t W) := by
 have HT := Lib.hid hT; have HO := Lib.hid ho; have HN := Lib.hid hn; clear hT ho hn
 have HL := Lib.hid (pcs_len (encW 3 fun _ => false) (encW_len 3 _) t t.length 0 0)
 go_enter Tryz.func13, Tryz.ntmps13
 go_wp2_with (first
  | (go_at_call 22; refine HO.out.mono ?_; rintro e w1 ⟨v, rfl, h1, h2⟩; have H1 := Lib.hid h1; have B1 := Lib.hid h2; clear h1 h2)
  | (go_at_call 23; refine (write_pos t 3 (by decide) (by decide) (fun _ => false) _ _ H1.out (tabs_below B1.out HT.out) (Nat.le_trans HN.out (by decide))).mono ?_; rintro e w2 ⟨v2, rfl, hown, h2⟩; have OW := Lib.hid hown; have B2 := Lib.hid (B1.out.trans (h2.mono B1.out.size)); clear hown h2)
  | (go_at_call 21; refine (joined_ok _ _ _ _ OW.out (Nat.le_trans HL.out.2 (Nat.le_trans HN.out (by decide))) (Nat.le_trans HL.out.1 (by have := HN.out; omega))).mono ?_; rintro e w3 ⟨rfl, h3⟩; have B3 := Lib.hid (B2.out.trans (h3.mono B2.out.size)); clear h3))
 go_ret
 exact ⟨by rw [catP_wr 3 (by decide)]; rfl, B3.out⟩
theorem str_eq (a b : List UInt8) : (⟨a.toArray⟩ : ByteArray) = ⟨b.toArray⟩ ↔ a = b :=
 ⟨fun h => by have := congrArg (fun x => x.data.toList) h; simpa using this, fun h => by rw [h]⟩
theorem str_beq (a b : List UInt8) : ((⟨a.toArray⟩ : ByteArray).toList == (⟨b.toArray⟩ : ByteArray).toList) = decide (a = b) := by
 rw [ByteArray.toList_mk, ByteArray.toList_mk]
 by_cases h : a = b
 ·subst h; simp
 ·simp [h]
end
section
open Go.Shelf Go.RowKit Go.Lib Go.Proofs.YtmpkgddioiaonaaGreatDoor.Am
theorem own_some {w : World} {base : Nat} {e : TypeId} {size n c : Nat} {A : Option Addr} {xs : List Value} (h : w.ownsRow base e size (.slice A n c) n xs) (hn : 0 < n) : ∃ g, A = some ⟨g, 0, none⟩ := by
 obtain ⟨g, cap, hv, _⟩ := h.form hn
 injection hv with hv
 exact ⟨g, hv⟩
def intsW (l : List Int) : List Value := l.map (Value.int .i64)
theorem intsW_app (l x : List Int) : intsW (l ++ x) = intsW l ++ intsW x := by simp [intsW]
theorem int_info : (Tryz.prog.info? 3).map (fun i => (i.zero, i.size, i.bytes)) = some (some (.int .i64 0), 1, 8) := by kernel_rfl
theorem src_one (w : World) (x : Value) (ty : TypeId) : Src (w.alloc (.cells #[x] ty)) (some ⟨w.heap.size, 0, none⟩) 1 [x] := by
 refine ⟨rfl, fun _ => ⟨_, rfl, fun j u hu => ?_⟩⟩
 match j, hu with
 | 0, hu =>
   rw [add_none, cell_of_row _ _ _ _ _ _ (heap_alloc_new w _)]
   exact hu
 | j + 1, hu => simp at hu
theorem src_one' (w : World) (x : Value) (ty : TypeId) (k : Nat) (hk : w.heap.size = k) : Src (w.alloc (.cells #[x] ty)) (some ⟨k, 0, none⟩) 1 [x] := by subst hk; exact src_one w x ty
/-- an operation that leaves each world of a class as it was and yields one value -/
theorem quiet_run {P : Program} {o : Oper} {a : Act} {C : World → Prop} {K : Act → Prop} (v : Value) (h : ∀ w, C w → (execOp a.eval o).run P w = .ok (.value v) w) (hK : K (a.put o.dst v)) : o.quiet P a C K :=
 ⟨v, fun w hw => by unfold Oper.quietAt; rw [h w hw]; exact ⟨rfl, rfl⟩, hK⟩
/-- a call that hands back one value in each world of a class and leaves a world of it -/
theorem quiet_call {P : Program} {o : Oper} {a : Act} {C : World → Prop} {K : Act → Prop} (f : FuncId) (args : Array Value) (v : Value) (h : ∀ w, C w → (execOp a.eval o).run P w = .ok (.enter f args) w)
 (hc : ∀ w, C w → Calls P f args w fun e w' => e = .returned v ∧ C w') (hK : K (a.put o.dst v)) : o.quiet P a C K :=
 ⟨v, fun w hw => by unfold Oper.quietAt; rw [h w hw]; exact ⟨rfl, hc w hw⟩, hK⟩
theorem wp_region_quiet_litC {P : Program} {id : Nat} {Q : Exit → Act → World → Prop} {a : Act} {w : World} {l : List Oper} {C : World → Prop} (hm : P.follows .mixedOrders = true) (hB : Region.lexB .any l.toArray = true) (hC : C (w.drewN 1))
 (h : wpQuiet P l.toArray C (fun a' => ∀ w', C w' → Q .normal a' w') l a) : (Code.region id l.toArray true).wp P Q a w := wp_region_quiet (C := C) hm hB hC (by simpa using h)
end
section
open Go.Shelf Go.RowKit Go.Lib Go.Proofs.YtmpkgddioiaonaaGreatDoor.Am
open Cases (smalls greats)
open Folds (dec dec_pos dec_le)
open Pieces (bt bt_lt bt_app)
def encN (c : Nat) : List UInt8 :=
 if c < 0x80 then [UInt8.ofNat c]
 else if c < 0x800 then [UInt8.ofNat (0xC0 + c / 64), UInt8.ofNat (0x80 + c % 64)]
 else if c < 0x10000 then [UInt8.ofNat (0xE0 + c / 4096), UInt8.ofNat (0x80 + c / 64 % 64), UInt8.ofNat (0x80 + c % 64)]
 else [UInt8.ofNat (0xF0 + c / 262144), UInt8.ofNat (0x80 + c / 4096 % 64), UInt8.ofNat (0x80 + c / 64 % 64), UInt8.ofNat (0x80 + c % 64)]
theorem isR_iff (r : Int) : isR r = true ↔ (0 ≤ r ∧ r ≤ 1114111 ∧ (r < 55296 ∨ 57343 < r)) := by
 unfold isR
 simp only [Bool.and_eq_true, Bool.or_eq_true, decide_eq_true_iff]
theorem raw_N (r : Int) (h : isR r = true) : (Utf8.encode r).data.toList = encN r.toNat := by
 have hv : Utf8.valid r = true := by
  have := (isR_iff r).1 h
  unfold Utf8.valid
  simp only [Bool.and_eq_true, Bool.or_eq_true, decide_eq_true_iff]
  omega
 unfold Utf8.encode encN
 simp only [hv, if_true]
 repeat' split
 all_goals rfl
theorem encR_raw (r : Int) (h : isR r = true) : encR r = (Utf8.encode r).data.toList := by unfold encR; rw [if_pos h]
theorem encR_N (r : Int) (h : isR r = true) : encR r = encN r.toNat := by rw [encR_raw r h, raw_N r h]
theorem ofNat_lt (n : Nat) (h : n < 256) : (UInt8.ofNat n).toNat = n := by rw [UInt8.toNat_ofNat', Nat.mod_eq_of_lt (by simpa using h)]
theorem isR_N {r : Int} (h : isR r = true) : r.toNat < 55296 ∨ (57343 < r.toNat ∧ r.toNat ≤ 1114111) := by
 have := (isR_iff r).1 h
 omega
theorem dec_isR (l : List UInt8) : isR ((dec l).1 : Int) = true := by
 rw [isR_iff]
 have := decodeN_valid l.length (bt l 0) (bt l 1) (bt l 2) (bt l 3) (bt_lt l 0)
 unfold dec
 omega
def okp (p : Int × Int) : Bool := decide (Cases.look smalls p.1 = some p.2) && decide (Cases.look greats p.1 = none) && decide (Cases.look greats p.2 = some p.1) && decide (Cases.look smalls p.2 = none) && (formsOf p.1).isNone && (formsOf p.2).isNone && isR p.1 && isR p.2
theorem okp0 : ((smalls.drop 0).take 60).all okp = true := by decide +kernel
theorem okp1 : ((smalls.drop 60).take 60).all okp = true := by decide +kernel
theorem okp2 : ((smalls.drop 120).take 60).all okp = true := by decide +kernel
theorem okp3 : ((smalls.drop 180).take 60).all okp = true := by decide +kernel
theorem okp4 : ((smalls.drop 240).take 60).all okp = true := by decide +kernel
theorem okp5 : ((smalls.drop 300).take 60).all okp = true := by decide +kernel
theorem okp6 : (smalls.drop 360).all okp = true := by decide +kernel
theorem okp_all {p : Int × Int} (h : p ∈ smalls) : okp p = true := by
 have step : ∀ c, ((smalls.drop c).take 60).all okp = true → (smalls.drop (c + 60)).all okp = true → (smalls.drop c).all okp = true := fun c h1 h2 => by
  rw [← List.take_append_drop 60 (smalls.drop c), List.all_append, h1, List.drop_drop, h2]
  rfl
 have h3 : (smalls.drop 0).all okp = true := step 0 okp0 (step 60 okp1 (step 120 okp2 (step 180 okp3 (step 240 okp4 (step 300 okp5 okp6)))))
 exact List.all_eq_true.1 h3 p h
structure Okp (r s : Int) : Prop where
 a : Cases.look smalls r = some s
 b : Cases.look greats r = none
 c : Cases.look greats s = some r
 d : Cases.look smalls s = none
 e : formsOf r = none
 f : formsOf s = none
 g : isR r = true
 h : isR s = true
theorem okp_of {r s : Int} (h : (r, s) ∈ smalls) : Okp r s := by
 have := okp_all h
 unfold okp at this
 simp only [Bool.and_eq_true, decide_eq_true_iff, Option.isNone_iff_eq_none] at this
 obtain ⟨⟨⟨⟨⟨⟨⟨a, b⟩, c⟩, d⟩, e⟩, f⟩, g⟩, h⟩ := this
 exact ⟨a, b, c, d, e, f, g, h⟩
theorem look_mem {l : List (Int × Int)} {r s : Int} (h : Cases.look l r = some s) : (r, s) ∈ l := by
 unfold Cases.look at h
 obtain ⟨p, hp, rfl⟩ := Option.map_eq_some_iff.1 h
 have h1 := List.mem_of_find?_eq_some hp
 have h2 := of_decide_eq_true (List.find?_some (p := fun x : Int × Int => decide (x.1 = r)) hp)
 rw [← h2]
 exact h1
theorem small_okp {r s : Int} (h : Cases.look smalls r = some s) : Okp r s := okp_of (look_mem h)
theorem great_okp {r s : Int} (h : Cases.look greats s = some r) : Okp r s := by
 have := look_mem h
 unfold greats at this
 obtain ⟨p, hp, he⟩ := List.mem_map.1 this
 obtain ⟨a, b⟩ := p
 injection he with e1 e2
 dsimp only at e1 e2
 subst e1 e2
 exact okp_of hp
theorem formV_none {r : Int} (h : formsOf r = none) (k : Nat) : formV r k = if k = 0 ∨ k = 3 then [(Cases.pair r).1] else [(Cases.pair r).2] := by
 unfold formV
 rw [h]
theorem Okp.big {r s : Int} (h : Okp r s) (k : Nat) : formV r k = if k = 0 ∨ k = 3 then [s] else [r] := by
 rw [formV_none h.e]
 unfold Cases.pair
 rw [h.a]
theorem Okp.low {r s : Int} (h : Okp r s) (k : Nat) : formV s k = if k = 0 ∨ k = 3 then [s] else [r] := by
 rw [formV_none h.f]
 unfold Cases.pair
 rw [h.d, h.c]
def okForm (r : Int) : Bool := [0, 1, 2, 3].all fun k => (!(formV r k).isEmpty) && ((formV r k).all isR && ((decide (k < 3) && (decide (r = 304) || decide (r = 305))) || decide ((formV r k).flatMap (fun x => formV x 3) = formV r 3)))
theorem okForm_all : Cases.specials.all okForm = true := by decide +kernel
theorem form_facts (r : Int) (hr : isR r = true) (k : Nat) (hk : k < 4) : formV r k ≠ [] ∧ (∀ x ∈ formV r k, isR x = true) ∧ (k = 3 ∨ (r ≠ 304 ∧ r ≠ 305) → (formV r k).flatMap (fun x => formV x 3) = formV r 3) := by
 cases hf : formsOf r with
 | some fs =>
   have hm : r ∈ Cases.specials := by
    rw [← List.contains_iff_mem, ← formsOf_iff, hf]; rfl
   have := List.all_eq_true.1 (List.all_eq_true.1 okForm_all r hm) k (by
    rcases (by omega : k = 0 ∨ k = 1 ∨ k = 2 ∨ k = 3) with rfl | rfl | rfl | rfl <;> decide)
   simp only [Bool.and_eq_true, Bool.or_eq_true, decide_eq_true_iff, Bool.not_eq_true', List.isEmpty_eq_false_iff, List.all_eq_true] at this
   refine ⟨this.1, this.2.1, fun h => ?_⟩
   rcases this.2.2 with ⟨h1, h2⟩ | h1
   ·rcases h with h | h
    ·omega
    ·rcases h2 with h2 | h2
     ·exact absurd h2 h.1
     ·exact absurd h2 h.2
   ·exact h1
 | none =>
   cases hs : Cases.look smalls r with
   | some s =>
     have ho := small_okp hs
     have hl := ho.low 3
     have hb := ho.big 3
     rw [if_pos (.inr rfl)] at hl hb
     rw [hb, ho.big k]
     split
     ·exact ⟨List.cons_ne_nil _ _, fun x hx => by rw [List.mem_singleton.1 hx]; exact ho.h, fun _ => by rw [List.flatMap_singleton, hl]⟩
     ·exact ⟨List.cons_ne_nil _ _, fun x hx => by rw [List.mem_singleton.1 hx]; exact ho.g, fun _ => by rw [List.flatMap_singleton, hb]⟩
   | none =>
     cases hg : Cases.look greats r with
     | some g =>
       have ho := great_okp hg
       have hl := ho.low 3
       have hb := ho.big 3
       rw [if_pos (.inr rfl)] at hl hb
       rw [hl, ho.low k]
       split
       ·exact ⟨List.cons_ne_nil _ _, fun x hx => by rw [List.mem_singleton.1 hx]; exact ho.h, fun _ => by rw [List.flatMap_singleton, hl]⟩
       ·exact ⟨List.cons_ne_nil _ _, fun x hx => by rw [List.mem_singleton.1 hx]; exact ho.g, fun _ => by rw [List.flatMap_singleton, hb]⟩
     | none =>
       have hp : Cases.pair r = (r, r) := by unfold Cases.pair; rw [hs, hg]
       have h1 : ∀ k, formV r k = [r] := fun k => by rw [formV_none hf, hp]; split <;> rfl
       rw [h1 k, h1 3]
       exact ⟨List.cons_ne_nil _ _, fun x hx => by rw [List.mem_singleton.1 hx]; exact hr, fun _ => by rw [List.flatMap_singleton, h1]⟩
end
end Go.Proofs.YtmpkgddioiaonaaGreatDoor.searchLeft
