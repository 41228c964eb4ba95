/- The scanner: what its functions compute. -/
import Derived.Test.YtfmnninijakknaaGreatDoorProg
import Derived.Shelf.Spec.DecodeRune
import Derived.Test.YtfmnninijakknaaGreatDoorSA
import Derived.Lib.Hide
import Derived.Test.YtfmnninijakknaaGreatDoorPA
import Derived.ScopeJumps
import Derived.WalkMore
import Derived.Deep.AppendLies
import Derived.OwnWalk
import Derived.BigQuiet
import Derived.Deep.QuietTactic
namespace Go.Proofs.YtfmnninijakknaaGreatDoor.searchPieces
section
open Go.Shelf Go.RowKit Go.Lib
def Tryz.lays7_32_ren : Go.Shelf.Ren := ⟨fun | 32 => 34 | 49 => 57 | n => n, fun | 30 => 31 | 21 => 21 | 3 => 3 | 0 => 0 | 5 => 5 | 4 => 4 | 33 => 72 | 66 => 114 | 25 => 112 | 69 => 117 | 68 => 116 | n => n, fun | 2 => 0 | 3 => 1 | n => n⟩
theorem Tryz.lays7_32 : Go.Proofs.Lays7.n32 Tryz.prog Tryz.lays7_32_ren := {
  mixed := by kernel_rfl
  f32 := Tryz.func34.trans (congrArg some (by kernel_rfl))
  f49 := Tryz.func57.trans (congrArg some (by kernel_rfl))
  t0 := Tryz.underlying0
  a0 := Tryz.isAgg0
  z0 := Tryz.sizeOf0
  v0 := Tryz.zeroValue0
  i0 := by kernel_rfl
  t3 := Tryz.underlying3
  a3 := Tryz.isAgg3
  z3 := Tryz.sizeOf3
  v3 := Tryz.zeroValue3
  i3 := by kernel_rfl
  t4 := Tryz.underlying4
  a4 := Tryz.isAgg4
  z4 := Tryz.sizeOf4
  v4 := Tryz.zeroValue4
  i4 := by kernel_rfl
  t5 := Tryz.underlying5
  a5 := Tryz.isAgg5
  z5 := Tryz.sizeOf5
  v5 := Tryz.zeroValue5
  i5 := by kernel_rfl
  t21 := Tryz.underlying21
  a21 := Tryz.isAgg21
  z21 := Tryz.sizeOf21
  v21 := Tryz.zeroValue21
  i21 := by kernel_rfl
  t25 := Tryz.underlying112
  a25 := Tryz.isAgg112
  z25 := Tryz.sizeOf112
  v25 := Tryz.zeroValue112
  i25 := by kernel_rfl
  t30 := Tryz.underlying31
  a30 := Tryz.isAgg31
  z30 := Tryz.sizeOf31
  v30 := Tryz.zeroValue31
  i30 := by kernel_rfl
  t33 := Tryz.underlying72
  a33 := Tryz.isAgg72
  z33 := Tryz.sizeOf72
  v33 := Tryz.zeroValue72
  i33 := by kernel_rfl
  t66 := Tryz.underlying114
  a66 := Tryz.isAgg114
  z66 := Tryz.sizeOf114
  t68 := Tryz.underlying116
  a68 := Tryz.isAgg116
  z68 := Tryz.sizeOf116
  v68 := Tryz.zeroValue116
  i68 := by kernel_rfl
  t69 := Tryz.underlying117
  a69 := Tryz.isAgg117
  z69 := Tryz.sizeOf117
  v69 := Tryz.zeroValue117
  i69 := by kernel_rfl
  g2 := by kernel_rfl
  g3 := by kernel_rfl }
theorem drune_any (s : ByteArray) (b off cap : Nat) (w : World) (hT : Lib.Utf8Tabs 0 1 w)
    (hp : ∀ j, j < s.size → w.cell? ⟨b, off + j, none⟩ = some (.int .u8 (s.get! j).toNat)) :
    Calls Tryz.prog 34 #[.slice (some ⟨b, off, none⟩) s.size cap] w fun e w' => e = .returned (.tuple #[.int .i32 (Lib.decodeGo s).1, .int .i64 (Lib.decodeGo s).2]) ∧ Below w.heap.size w w' :=
  Any7.utf8_DecodeRune Tryz.lays7_32 s b off cap w hT hp
end
section
open Go.Shelf Go.RowKit
def nth (ss : List ByteArray) (k : Nat) : ByteArray := ss.getD k ⟨#[]⟩
def tot (ss : List ByteArray) (k : Nat) : Nat := ((ss.take k).map (·.size)).sum
theorem tot_succ (ss : List ByteArray) (k : Nat) (h : k < ss.length) : tot ss (k + 1) = tot ss k + (nth ss k).size := by
  unfold tot nth; rw [List.take_succ_eq_append_getElem h, List.map_append, List.sum_append]; simp [List.getD_eq_getElem?_getD, h]
def LongPost (ss : List ByteArray) (w : World) (e : Ending) (w' : World) : Prop := (e = .returned (.bool (decide (80 < ss.length ∨ 48 < tot ss 81)))) ∧ w' = w
theorem tot_le (ss : List ByteArray) (hsz : ∀ j, (nth ss j).size ≤ 140737488351232) : ∀ k, k ≤ ss.length → tot ss k ≤ k * 140737488351232
  | 0, _ => by simp [tot]
  | k + 1, h => by
    have := tot_le ss hsz k (by omega)
    have h2 := hsz k
    rw [tot_succ ss k (by omega)]
    omega
theorem tot_all (ss : List ByteArray) {k : Nat} (h : ss.length ≤ k) : tot ss k = tot ss ss.length := by
  unfold tot; rw [List.take_of_length_le h, List.take_of_length_le (Nat.le_refl _)]
set_option maxHeartbeats 800000 in
set_option maxRecDepth 100000 in
theorem long_any (lb lo c : Nat) (ss : List ByteArray) (w : World) (hc : ∀ j, j < ss.length → w.cell? ⟨lb, lo + j, none⟩ = some (.string (nth ss j))) (hl : ss.length ≤ 140737488351232) (hsz : ∀ j, (nth ss j).size ≤ 140737488351232) :
    Calls Tryz.prog 4 #[.slice (some ⟨lb, lo, none⟩) ss.length c] w (LongPost ss w) := by
  obtain ⟨n, hn⟩ : ∃ n, ss.length = n := ⟨_, rfl⟩
  rw [hn] at hl
  have HN := Lib.hid hn; clear hn
  have HC := Lib.hid hc; clear hc
  have HS := Lib.hid hsz; clear hsz
  rw [HN.out]
  go_enter Tryz.func4, Tryz.ntmps4
  go_wp2
  go_loop [3, 4] (fun t i => ∃ k : Nat, k ≤ n ∧ k ≤ 81 ∧ i = .int .i64 k ∧ t = .int .i64 (tot ss k)) (fun _ i => 100 - (RowKit.intOf i).toNat)
  case atStart => exact ⟨0, Nat.zero_le _, by omega, rfl, rfl⟩
  case round =>
    obtain ⟨k, hk, hk2, rfl, rfl⟩ := hrel
    have hb := tot_le ss HS.out k (by rw [HN.out]; exact hk)
    by_cases hlt : k < n
    · by_cases h80 : k ≤ 80
      · have hcell : w.cell? ⟨lb, lo + k, none⟩ = some (.string (nth ss k)) := HC.out k (by rw [HN.out]; exact hlt)
        have hs1 := HS.out k
        have HT := Lib.hid (tot_succ ss k (by rw [HN.out]; exact hlt))
        obtain ⟨s, hs⟩ : ∃ s, nth ss k = s := ⟨_, rfl⟩
        rw [hs] at hcell hs1
        have HS2 := Lib.hid hs; clear hs
        obtain ⟨T, hT⟩ : ∃ T, tot ss k = T := ⟨_, rfl⟩
        rw [hT] at hb ⊢
        have HT2 := Lib.hid hT; clear hT
        have hb2 : T ≤ 11399736556449792 := Nat.le_trans hb (Nat.mul_le_mul_right 140737488351232 hk2)
        go_wp2
        go_round
        case rel =>
          clear hb hb2 hs1 hl
          exact ⟨k + 1, hlt, Nat.succ_le_succ h80, by go_num, by rw [HT.out, HT2.out, HS2.out]; go_num⟩
        case measure =>
          clear hb hb2 hs1 hl
          simp [RowKit.intOf]; omega
      · have hk81 : k = 81 := by omega
        have hlong : 80 < n := by omega
        go_wp2
        go_ret
        exact ⟨by rw [decide_eq_true (show 80 < ss.length ∨ 48 < tot ss 81 from .inl (by rw [HN.out]; exact hlong))]; rfl, rfl⟩
    · obtain rfl : k = n := by omega
      by_cases hlong : 80 < k
      · go_wp2
        go_ret
        exact ⟨by rw [decide_eq_true (show 80 < ss.length ∨ 48 < tot ss 81 from .inl (by rw [HN.out]; exact hlong))]; rfl, rfl⟩
      · have hshort : ¬ (80 : Int) < k := by omega
        by_cases h48 : 48 < tot ss k
        · have h48i : decide ((48 : Int) < (tot ss k : Int)) = true := by rw [decide_eq_true_iff]; omega
          go_wp2
          go_ret
          exact ⟨by rw [decide_eq_true (show 80 < ss.length ∨ 48 < tot ss 81 from .inr (by rw [tot_all ss (by rw [HN.out]; omega), HN.out]; exact h48))]; rfl, rfl⟩
        · have h48i : decide ((48 : Int) < (tot ss k : Int)) = false := by rw [decide_eq_false_iff_not]; omega
          go_wp2
          go_ret
          exact ⟨by rw [decide_eq_false (show ¬ (80 < ss.length ∨ 48 < tot ss 81) from by rw [tot_all ss (by rw [HN.out]; omega), HN.out]; omega)]; rfl, rfl⟩
end
section
open Go.Shelf Go.RowKit Go.Lib
open Pieces (bt width full)
/-! ### what a step leaves as it was -/
structure Fr (T : Nat → Prop) (w w' : World) : Prop where
  os : w'.os = w.os
  tape : w'.tape = w.tape
  output : w'.output = w.output
  size : w.heap.size ≤ w'.heap.size
  block : ∀ k, k < w.heap.size → ¬ T k → w'.heap[k]? = w.heap[k]?
theorem Fr.refl (T : Nat → Prop) (w : World) : Fr T w w := ⟨rfl, rfl, rfl, Nat.le_refl _, fun _ _ _ => rfl⟩
theorem Fr.trans {T : Nat → Prop} {a b c : World} (h : Fr T a b) (k : Fr T b c) : Fr T a c :=
  ⟨k.os.trans h.os, k.tape.trans h.tape, k.output.trans h.output, Nat.le_trans h.size k.size, fun i hi ht => (k.block i (Nat.lt_of_lt_of_le hi h.size) ht).trans (h.block i hi ht)⟩
theorem Fr.mono {T T' : Nat → Prop} {a b : World} (h : Fr T a b) (ht : ∀ k, k < a.heap.size → T k → T' k) : Fr T' a b :=
  ⟨h.os, h.tape, h.output, h.size, fun i hi hn => h.block i hi fun c => hn (ht i hi c)⟩
theorem Fr.trans' {T T' : Nat → Prop} {a b c : World} (h : Fr T a b) (k : Fr T' b c) (ht : ∀ k, k < a.heap.size → T' k → T k) : Fr T a c :=
  ⟨k.os.trans h.os, k.tape.trans h.tape, k.output.trans h.output, Nat.le_trans h.size k.size, fun i hi hn => (k.block i (Nat.lt_of_lt_of_le hi h.size) fun c => hn (ht i hi c)).trans (h.block i hi hn)⟩
theorem Fr.of_below {T : Nat → Prop} {B : Nat} {w w' : World} (h : Below B w w') (hB : w.heap.size ≤ B) : Fr T w w' :=
  ⟨h.os, h.tape, h.output, h.size, fun k hk _ => h.block k (by omega)⟩
theorem Fr.to_below {w w' : World} (h : Fr (fun _ => False) w w') : Below w.heap.size w w' :=
  ⟨h.os, h.tape, h.output, h.size, fun k hk => h.block k hk id⟩
theorem Fr.grown {T : Nat → Prop} {w w' : World} {row : Option Nat} (h : w.grownBy w' row) (hr : ∀ k, row = some k → k < w.heap.size → T k) : Fr T w w' :=
  ⟨h.os, h.tape, h.output, h.size, fun k hk hn => h.block k hk fun e => hn (hr k e.symm hk)⟩
theorem Fr.drew (T : Nat → Prop) (w : World) : Fr T w w.drew := ⟨rfl, rfl, rfl, Nat.le_refl _, fun _ _ _ => rfl⟩
theorem Fr.drewN (T : Nat → Prop) (w : World) (n : Nat) : Fr T w (w.drewN n) := ⟨rfl, rfl, rfl, Nat.le_refl _, fun _ _ _ => rfl⟩
theorem Fr.alloc (T : Nat → Prop) (w : World) (o : Obj) : Fr T w (w.alloc o) := Fr.of_below ((Below.refl w.heap.size w).alloc (Nat.le_refl _) o) (Nat.le_refl _)
theorem Fr.set {T : Nat → Prop} (w : World) (a : Addr) (u : Value) (h : a.block < w.heap.size → T a.block) : Fr T w (w.setCell a u) :=
  ⟨rfl, rfl, rfl, by simp [World.setCell], fun k hk hn => Below.heap_setCell _ _ _ _ (fun c => hn (c ▸ h (c ▸ hk)))⟩
theorem Fr.cell {T : Nat → Prop} {w w' : World} (h : Fr T w w') {p : Addr} (hp : p.block < w.heap.size) (hn : ¬ T p.block) : w'.cell? p = w.cell? p := World.cell?_of_block (w := w) (h.block p.block hp hn)
theorem Fr.blk {T : Nat → Prop} {w w' : World} (h : Fr T w w') {k : Nat} {o : Obj} (hk : w.heap[k]? = some o) (hn : ¬ T k) : w'.heap[k]? = some o := by
  rw [h.block k (by rcases Nat.lt_or_ge k w.heap.size with c | c; exact c; rw [Array.getElem?_eq_none c] at hk; cases hk) hn]; exact hk
theorem heap_lt {w : World} {k : Nat} {o : Obj} (h : w.heap[k]? = some o) : k < w.heap.size := by
  rcases Nat.lt_or_ge k w.heap.size with c | c
  · exact c
  · rw [Array.getElem?_eq_none c] at h; cases h
theorem Fr.own {T : Nat → Prop} {w w' : World} (h : Fr T w w') {base : Nat} {e : TypeId} {size n : Nat} {v : Value} {xs : List Value} (ho : w.ownsRow base e size v n xs) (hn : ∀ g, v.ownBlock = some g → ¬ T g) : w'.ownsRow base e size v n xs := by
  refine ⟨ho.1, ?_⟩
  rcases ho.2 with h2 | ⟨g, cap, cur, hv, hb, hg, r⟩
  · exact .inl h2
  · exact .inr ⟨g, cap, cur, hv, hb, h.blk hg (hn g (by rw [hv]; rfl)), r⟩
theorem own_lt {w : World} {base : Nat} {e : TypeId} {size n : Nat} {v : Value} {xs : List Value} (ho : w.ownsRow base e size v n xs) {g : Nat} (hg : v.ownBlock = some g) : base ≤ g ∧ g < w.heap.size ∧ ∃ cur, w.heap[g]? = some (.cells cur e (0, 0)) := by
  rcases ho.2 with ⟨h2, _⟩ | ⟨g', cap, cur, hv, hb, hg', r⟩
  · rw [h2] at hg; cases hg
  · rw [hv] at hg
    have : g' = g := by simpa [Value.ownBlock] using hg
    subst this
    exact ⟨hb, heap_lt hg', cur, hg'⟩
theorem own_base {w : World} {base base' : Nat} {e : TypeId} {size n : Nat} {v : Value} {xs : List Value} (ho : w.ownsRow base e size v n xs) (hn : ∀ g, v.ownBlock = some g → base' ≤ g) : w.ownsRow base' e size v n xs := by
  refine ⟨ho.1, ?_⟩
  rcases ho.2 with h2 | ⟨g, cap, cur, hv, hb, hg, r⟩
  · exact .inl h2
  · exact .inr ⟨g, cap, cur, hv, hn g (by rw [hv]; rfl), hg, r⟩
theorem tabs_fr {T : Nat → Prop} {w w' : World} (h : Fr T w w') (hT : Lib.Utf8Tabs 0 1 w) (h0 : ¬ T 0) (h1 : ¬ T 1) : Lib.Utf8Tabs 0 1 w' := by
  have c0 : ∀ j v, w.cell? ⟨0, j, none⟩ = some v → w'.cell? ⟨0, j, none⟩ = some v := fun j v hj => by
    rw [h.cell (p := ⟨0, j, none⟩) (cell_lt hj) h0]; exact hj
  have c1 : ∀ j v, w.cell? ⟨1, j, none⟩ = some v → w'.cell? ⟨1, j, none⟩ = some v := fun j v hj => by
    rw [h.cell (p := ⟨1, j, none⟩) (cell_lt hj) h1]; exact hj
  exact ⟨fun i hi => c0 _ _ (hT.1 i hi), fun i hi => ⟨c1 _ _ (hT.2 i hi).1, c1 _ _ (hT.2 i hi).2⟩⟩
/-! ### bytes in a row -/
def bytesV (l : List UInt8) : List Value := l.map fun b => .int .u8 b.toNat
theorem bytesV_len (l : List UInt8) : (bytesV l).length = l.length := by simp [bytesV]
theorem bytesV_app (l x : List UInt8) : bytesV (l ++ x) = bytesV l ++ bytesV x := by simp [bytesV]
theorem bytesV_one (l : List UInt8) : ∀ u ∈ bytesV l, u.oneCell' = true := by
  intro u hu
  obtain ⟨b, _, rfl⟩ := List.mem_map.1 hu
  rfl
theorem bytesV_get (l : List UInt8) (j : Nat) (h : j < l.length) : (bytesV l)[j]? = some (.int .u8 (bt l j)) := by
  unfold bytesV bt
  rw [List.getElem?_map, List.getElem?_eq_getElem h, List.getD_eq_getElem?_getD, List.getElem?_eq_getElem h]
  rfl
/-- bytes that can be read at a slice -/
def BR (w : World) (B : Nat) (A : Option Addr) (m : Nat) (l : List UInt8) : Prop :=
  l.length = m ∧ (0 < m → ∃ g off, A = some ⟨g, off, none⟩ ∧ g < B ∧ ∀ j, j < m → w.cell? ⟨g, off + j, none⟩ = some (.int .u8 (bt l j)))
theorem BR.fr {T : Nat → Prop} {w w' : World} {B : Nat} {A : Option Addr} {m : Nat} {l : List UInt8} (h : BR w B A m l) (hf : Fr T w w') (hn : ∀ g, g < B → (∃ off, A = some ⟨g, off, none⟩) → ¬ T g) : BR w' B A m l := by
  refine ⟨h.1, fun hm => ?_⟩
  obtain ⟨g, off, hA, hg, hc⟩ := h.2 hm
  exact ⟨g, off, hA, hg, fun j hj => by rw [hf.cell (p := ⟨g, off + j, none⟩) (cell_lt (hc j hj)) (hn g hg ⟨off, hA⟩)]; exact hc j hj⟩
theorem BR.below {w w' : World} {B : Nat} {A : Option Addr} {m : Nat} {l : List UInt8} (h : BR w B A m l) (hb : Below B w w') : BR w' B A m l := by
  refine ⟨h.1, fun hm => ?_⟩
  obtain ⟨g, off, hA, hg, hc⟩ := h.2 hm
  exact ⟨g, off, hA, hg, fun j hj => by rw [hb.cell (p := ⟨g, off + j, none⟩) hg]; exact hc j hj⟩
theorem bt_drop (l : List UInt8) (k j : Nat) : bt (l.drop k) j = bt l (k + j) := by
  unfold bt
  rw [List.getD_eq_getElem?_getD, List.getD_eq_getElem?_getD, List.getElem?_drop]
theorem BR.drop {w : World} {B g off m : Nat} {l : List UInt8} {A : Option Addr} (h : BR w B (some ⟨g, off, none⟩) m l) (k : Nat) (hk : k ≤ m) (hA : k < m → A = some ⟨g, off + k, none⟩) : BR w B A (m - k) (l.drop k) := by
  refine ⟨by rw [List.length_drop, h.1], fun hm => ?_⟩
  obtain ⟨g', off', hA', hg, hc⟩ := h.2 (by omega)
  cases hA'
  exact ⟨g, off + k, hA (by omega), hg, fun j hj => by rw [bt_drop, Nat.add_assoc]; exact hc (k + j) (by omega)⟩
theorem BR.of_own {w : World} {base n : Nat} {v : Value} {l : List UInt8} (h : w.ownsRow base 5 1 v n (bytesV l)) :
    l.length = n ∧ ∃ (A : Option Addr) (cap : Nat), v = .slice A n cap ∧ BR w w.heap.size A n l ∧ (∀ a, A = some a → v.ownBlock = some a.block) ∧ n ≤ cap ∧ cap ≤ maxLen := by
  have hl : l.length = n := by have := h.1; rw [bytesV_len] at this; omega
  refine ⟨hl, ?_⟩
  rcases h.2 with ⟨h2, h0⟩ | ⟨g, cap, cur, hv, hb, hg, hnc, hcm, hsz, ht⟩
  · subst h0
    exact ⟨none, 0, h2, ⟨hl, fun c => absurd c (by omega)⟩, (fun a c => by cases c), Nat.le_refl _, Nat.zero_le _⟩
  · refine ⟨some ⟨g, 0, none⟩, cap, hv, ⟨hl, fun _ => ⟨g, 0, rfl, heap_lt hg, fun j hj => ?_⟩⟩, fun a ha => by cases ha; rw [hv]; rfl, hnc, hcm⟩
    rw [Nat.zero_add, cell_of_row w g j cur 5 (0, 0) hg]
    have h3 := bytesV_get l j (by omega)
    rw [← ht, List.getElem?_take] at h3
    rw [if_pos (by omega)] at h3
    simpa using h3
/-! ### the first rune of bytes in a row -/
def DrPost (wd : Nat) (w : World) (e : Ending) (w' : World) : Prop := (∃ r : Int, e = .returned (.tuple #[.int .i32 r, .int .i64 wd])) ∧ Below w.heap.size w w'
theorem drune_l (l : List UInt8) (g off m c wd : Nat) (w : World) (hw : width l = wd) (hm : l.length = m) (h0 : 0 < m) (hT : Lib.Utf8Tabs 0 1 w)
    (hp : ∀ j, j < m → w.cell? ⟨g, off + j, none⟩ = some (.int .u8 (bt l j))) : Calls Tryz.prog 34 #[.slice (some ⟨g, off, none⟩) m c] w (DrPost wd w) := by
  have hs : (⟨l.toArray⟩ : ByteArray).size = m := by rw [← hm]; simp [ByteArray.size]
  have hd : (⟨l.toArray⟩ : ByteArray).data.toList = l := by simp
  have h := drune_any ⟨l.toArray⟩ g off c w hT (fun j hj => by rw [Pieces.get_bt, hd]; exact hp j (by omega))
  rw [hs] at h
  refine h.mono ?_
  rintro e w' ⟨rfl, hb⟩
  refine ⟨⟨(Lib.decodeGo ⟨l.toArray⟩).1, ?_⟩, hb⟩
  rw [Pieces.decodeGo_width _ (by rw [hd]; intro c; rw [c] at hm; simp at hm; omega), hd, hw]
def fullB (l : List UInt8) : Prop := full l
theorem full_l (b : Bool) (l : List UInt8) (g off m c : Nat) (w : World) (hm : l.length = m) (h0 : 0 < m) (hn : m ≤ 4000000) (hp : ∀ j, j < m → w.cell? ⟨g, off + j, none⟩ = some (.int .u8 (bt l j))) (hT : Lib.Utf8Tabs 0 1 w)
    (hb : fullB l ↔ b = true) : Calls Tryz.prog 33 #[.slice (some ⟨g, off, none⟩) m c] w (FullPost b w) := by
  classical
  have hne : l ≠ [] := by intro c; rw [c] at hm; simp at hm; omega
  have h := Full_N g off m c (bt l 0) (bt l 1) (bt l 2) w h0 hn (by have := hp 0 h0; rwa [Nat.add_zero] at this) (Pieces.bt_lt l 0) (fun h => hp 1 h) (fun h => hp 2 h) hT
  have : decide (Pieces.fullN m (bt l 0) (bt l 1) (bt l 2)) = b := by
    have h1 : fullB l ↔ Pieces.fullN m (bt l 0) (bt l 1) (bt l 2) := by
      unfold fullB full
      rw [hm]
      exact ⟨fun h => h.2, fun h => ⟨hne, h⟩⟩
    rw [Bool.eq_iff_iff, decide_eq_true_iff, ← h1]
    exact hb
  rwa [this] at h
end
section
open Go.Shelf Go.RowKit Go.Lib
/-! ### append of what another slice holds, nil or not (elements of one cell) -/
/-- what a slice holds, as append asks for it -/
def Src (w : World) (A : Option Addr) (m : Nat) (news : List Value) : Prop :=
  news.length = m ∧ (0 < m → ∃ ad, A = some ad ∧ ∀ j u, news[j]? = some u → w.cell? (ad.add j) = some u)
theorem add_none (g off j : Nat) : (⟨g, off, none⟩ : Addr).add j = ⟨g, off + j, none⟩ := by unfold Addr.add; split <;> simp_all
theorem BR.src {w : World} {B : Nat} {A : Option Addr} {m : Nat} {l : List UInt8} (h : BR w B A m l) : Src w A m (bytesV l) := by
  refine ⟨by rw [bytesV_len, h.1], fun hm => ?_⟩
  obtain ⟨g, off, hA, _, hc⟩ := h.2 hm
  refine ⟨_, hA, fun j u hu => ?_⟩
  have hj : j < m := by
    have := (List.getElem?_eq_some_iff.1 hu).1
    rwa [bytesV_len, h.1] at this
  rw [add_none, hc j hj, ← bytesV_get l j (by rw [h.1]; exact hj), hu]
theorem Src.of_own {w : World} {base : Nat} {e : TypeId} {A : Option Addr} {n c : Nat} {xs : List Value} (h : w.ownsRow base e 1 (.slice A n c) n xs) : Src w A n xs := by
  refine ⟨by have := h.1; omega, fun hn => ?_⟩
  obtain ⟨g, cap, hv, _, hlt⟩ := h.form hn
  have hA : A = some ⟨g, 0, none⟩ := by injection hv
  subst hA
  exact ⟨_, rfl, h.cells (g := g) rfl⟩
theorem own_slice {w : World} {base : Nat} {e : TypeId} {v : Value} {size n : Nat} {xs : List Value} (h : w.ownsRow base e size v n xs) : ∃ A c, v = .slice A n c ∧ (∀ a, A = some a → v.ownBlock = some a.block) ∧ (A = none → v.ownBlock = none) ∧ n ≤ c ∧ c ≤ maxLen := by
  rcases h.2 with ⟨h2, h0⟩ | ⟨g, cap, cur, hv, hb, hg, hnc, hcm, _⟩
  · subst h0; exact ⟨none, 0, h2, (fun a c => by cases c), (fun _ => by rw [h2]; rfl), Nat.le_refl _, Nat.zero_le _⟩
  · exact ⟨some ⟨g, 0, none⟩, cap, hv, (fun a ha => by cases ha; rw [hv]; rfl), (fun c => by cases c), hnc, hcm⟩
section
variable {P : Program} (w : World)
theorem run_app (base : Nat) (t ty e : TypeId) (i : TypeInfo) (z : Value) (bytes : Nat) (ht : P.underlying t = some (.slice e)) (hi : P.info? e = some i) (hz : i.zero = some z)
    (hsize : i.size = 1) (hby : i.bytes = bytes) (hzs : z.cells.size = 1)
    (v : Value) (n : Nat) (xs : List Value) (hown : w.ownsRow base e 1 v n xs) (A : Option Addr) (m c : Nat) (news : List Value) (hs : Src w A m news) (h1 : ∀ u ∈ news, u.oneCell' = true)
    (h63 : n + m ≤ maxLen) (hbytes : (n + m) * bytes ≤ 140737488355328) (hbase : base ≤ w.heap.size) :
    ∃ v' w', (Builtin.append_ #[t, t] ty #[v, .slice A m c]).run P w = .ok v' w' ∧ w'.ownsRow base e 1 v' (n + m) (xs ++ news) ∧ w.grownBy w' v.ownBlock ∧ (v'.ownBlock = v.ownBlock ∨ v'.ownBlock = some w.heap.size) := by
  cases A with
  | none =>
    obtain rfl : m = 0 := by
      rcases Nat.eq_zero_or_pos m with c | c
      · exact c
      · obtain ⟨_, h, _⟩ := hs.2 c; cases h
    obtain rfl : news = [] := List.eq_nil_of_length_eq_zero hs.1
    refine ⟨v, w, ?_, by simpa using hown, ⟨rfl, rfl, rfl, Nat.le_refl _, fun _ _ _ => rfl⟩, .inl rfl⟩
    rcases hown.2 with ⟨rfl, rfl⟩ | ⟨g, cap, cur, rfl, _, _, hnc, _⟩ <;> simp [Builtin.append_, run_underlying ht, sizeOf, typeInfo, hi, Builtin.lenOf, Builtin.firstCells]
    simp [hnc, storeCells]
  | some ad =>
    have hc : ∀ j u, news[j]? = some u → w.cell? (ad.add j) = some u := fun j u hu => by
      rcases Nat.eq_zero_or_pos m with c | c
      · have := hs.1
        rw [c] at this
        rw [List.eq_nil_of_length_eq_zero this] at hu; simp at hu
      · obtain ⟨_, h, hh⟩ := hs.2 c
        cases h; exact hh j u hu
    obtain ⟨v', w', h, h2, h3, _, h5⟩ := run_append_own_at (P := P) w base t ty e i z 1 bytes ht hi hz hsize hby hzs (by omega) v n xs hown ad m c news (by rw [hs.1, Nat.mul_one]) hc h1 h63 hbytes hbase
    exact ⟨v', w', h, h2, h3, h5⟩
theorem wp_app {o : Oper} {a : Act} {K : Act → World → Prop} {Q : Exit → Act → World → Prop} (s x : Operand) (t : TypeId)
    (ho : o.op = .call { callee := .builtin .append, args := #[s, x], argTypes := #[t, t] })
    (base : Nat) (e : TypeId) (i : TypeInfo) (z : Value) (bytes : Nat) (ht : P.underlying t = some (.slice e)) (hi : P.info? e = some i) (hz : i.zero = some z)
    (hsize : i.size = 1) (hby : i.bytes = bytes) (hzs : z.cells.size = 1)
    (v : Value) (n : Nat) (xs : List Value) (hv : a.eval s = v) (hown : w.ownsRow base e 1 v n xs) (A : Option Addr) (m c : Nat) (news : List Value) (hx : a.eval x = .slice A m c) (hs : Src w A m news) (h1 : ∀ u ∈ news, u.oneCell' = true)
    (h63 : n + m ≤ maxLen) (hbytes : (n + m) * bytes ≤ 140737488355328) (hbase : base ≤ w.heap.size)
    (h : ∀ v' w', w'.ownsRow base e 1 v' (n + m) (xs ++ news) → w.grownBy w' v.ownBlock → (v'.ownBlock = v.ownBlock ∨ v'.ownBlock = some w.heap.size) → K (a.put o.dst v') w') : o.wp P a w K Q := by
  obtain ⟨v', w', hr, h2, h3, h4⟩ := run_app (P := P) w base t o.type e i z bytes ht hi hz hsize hby hzs v n xs hown A m c news hs h1 h63 hbytes hbase
  unfold Oper.wp execOp
  simp only [ho, resolve, invoke, builtin, Sem.run_bind, Sem.run_pure, Result.andThen_ok, List.map_toArray, List.map_cons, List.map_nil, hv, hx, hr]
  exact h v' w' h2 h3 h4
theorem wpList_app {ops : Array Oper} {rest : List Oper} {o : Oper} {a : Act} {Q : Exit → Act → World → Prop} (hgd : o.guard = none) (s x : Operand) (t : TypeId)
    (ho : o.op = .call { callee := .builtin .append, args := #[s, x], argTypes := #[t, t] })
    (base : Nat) (e : TypeId) (i : TypeInfo) (z : Value) (bytes : Nat) (ht : P.underlying t = some (.slice e)) (hi : P.info? e = some i) (hz : i.zero = some z)
    (hsize : i.size = 1) (hby : i.bytes = bytes) (hzs : z.cells.size = 1)
    (v : Value) (n : Nat) (xs : List Value) (hv : a.eval s = v) (hown : w.ownsRow base e 1 v n xs) (A : Option Addr) (m c : Nat) (news : List Value) (hx : a.eval x = .slice A m c) (hs : Src w A m news) (h1 : ∀ u ∈ news, u.oneCell' = true)
    (h63 : n + m ≤ maxLen) (hbytes : (n + m) * bytes ≤ 140737488355328) (hbase : base ≤ w.heap.size)
    (h : ∀ v' w', w'.ownsRow base e 1 v' (n + m) (xs ++ news) → w.grownBy w' v.ownBlock → (v'.ownBlock = v.ownBlock ∨ v'.ownBlock = some w.heap.size) → wpList P ops Q rest (a.put o.dst v') w') : wpList P ops Q (o :: rest) a w :=
  wpList_plain hgd fun _ hK => wp_app w s x t ho base e i z bytes ht hi hz hsize hby hzs v n xs hv hown A m c news hx hs h1 h63 hbytes hbase fun v' w' h2 h3 h4 => hK _ _ (h v' w' h2 h3 h4)
end
end
section
open Go.Shelf Go.RowKit Go.Lib
open Pieces (bt width full)
/-! ### a scope with a label behind and a label ahead -/
def jump2 (l m : Nat) (J E : Act → World → Prop) (Q : Exit → Act → World → Prop) : Exit → Act → World → Prop
  | .goto l', a, w => (l' = l ∧ J a w) ∨ (l' = m ∧ E a w)
  | e, a, w => Q e a w
theorem wp_scope_two {P : Program} {a : Act} {w : World} {Q : Exit → Act → World → Prop} {c body last : Code} (l m : Nat) (J E : Act → World → Prop) (μ : Act → World → Nat)
    (hf : findLabel c l = some (.seq .skip body)) (hm : findLabel c m = some last)
    (first : (∀ a w, J a w → body.wp P (jump2 l m J E Q) a w) → c.wp P (jump2 l m J E Q) a w)
    (pass : ∀ a w, J a w → body.wp P (jump2 l m (fun a' w' => J a' w' ∧ μ a' w' < μ a w) E Q) a w)
    (fin : ∀ a w, E a w → last.wp P (Exit.noGoto Q) a w) : (Code.scope c).wp P Q a w := by
  intro b k cs
  have hg : gotoIn l (.inScope c :: k) = some (.code (.seq .skip body) :: .inScope c :: k) := by simp [gotoIn, hf]
  have hgm : gotoIn m (.inScope c :: k) = some (.code last :: .inScope c :: k) := by simp [gotoIn, hm]
  have s1 : ∀ a w, step P (lone (b.at a (.code (.seq .skip body) :: .inScope c :: k)) cs w) = .next (lone (b.at a (.code .skip :: .code body :: .inScope c :: k)) cs w) := fun a w => step_lone_go (by simp [stepG, stepG.exec, Frame.at])
  have s2 : ∀ a w, step P (lone (b.at a (.code .skip :: .code body :: .inScope c :: k)) cs w) = .next (lone (b.at a (.code body :: .inScope c :: k)) cs w) := fun a w => step_lone_go (by simp [stepG, stepG.exec, Frame.at])
  have hskip : ∀ a w, Steps P (lone (b.at a (.code (.seq .skip body) :: .inScope c :: k)) cs w) (lone (b.at a (.code body :: .inScope c :: k)) cs w) := fun a w => .head (s1 a w) (.one (s2 a w))
  have ends : ∀ a w, E a w → ∃ e a' w', Q e a' w' ∧ Arrives P (lone (b.at a (.code last :: .inScope c :: k)) cs w) b k cs e a' w' := by
    intro a w hE
    obtain ⟨e, a₁, w₁, hq, harr⟩ := fin a w hE b (.inScope c :: k) cs
    cases e with
    | normal => exact ⟨.normal, a₁, w₁, hq, Steps.trans harr (.one step_inScope)⟩
    | exit id => exact ⟨.exit id, a₁, w₁, hq, fun k' hk => harr k' (by simp [exitTo, hk])⟩
    | goto l' => exact hq.elim
    | ret => exact ⟨_, a₁, w₁, hq, harr⟩
    | panic ch => exact ⟨_, a₁, w₁, hq, harr⟩
    | outgrown => exact ⟨_, a₁, w₁, hq, harr⟩
  have key : ∀ n a w, μ a w = n → J a w → ∃ e a' w', Q e a' w' ∧ Arrives P (lone (b.at a (.code body :: .inScope c :: k)) cs w) b k cs e a' w' := by
    intro n
    induction n using Nat.strongRecOn with
    | _ n ih =>
      intro a w hn hJ
      obtain ⟨e, a₁, w₁, hq, harr⟩ := pass a w hJ b (.inScope c :: k) cs
      cases e with
      | normal => exact ⟨.normal, a₁, w₁, hq, Steps.trans harr (.one step_inScope)⟩
      | exit id => exact ⟨.exit id, a₁, w₁, hq, fun k' hk => harr k' (by simp [exitTo, hk])⟩
      | goto l' =>
        rcases hq with ⟨rfl, hJ', hlt⟩ | ⟨rfl, hE⟩
        · obtain ⟨e₂, a₂, w₂, hq₂, harr₂⟩ := ih _ (by omega) a₁ w₁ rfl hJ'
          exact ⟨e₂, a₂, w₂, hq₂, .of_steps ((harr _ hg).trans (hskip a₁ w₁)) harr₂⟩
        · obtain ⟨e₂, a₂, w₂, hq₂, harr₂⟩ := ends a₁ w₁ hE
          exact ⟨e₂, a₂, w₂, hq₂, .of_steps (harr _ hgm) harr₂⟩
      | ret => exact ⟨_, a₁, w₁, hq, harr⟩
      | panic ch => exact ⟨_, a₁, w₁, hq, harr⟩
      | outgrown => exact ⟨_, a₁, w₁, hq, harr⟩
  have hp : ∀ a w, J a w → body.wp P (jump2 l m J E Q) a w := fun a w hJ => wp_mono (pass a w hJ) fun e a' w' h => by
    cases e with
    | goto l' => exact h.elim (fun h => .inl ⟨h.1, h.2.1⟩) .inr
    | _ => exact h
  obtain ⟨e, a₁, w₁, hq, harr⟩ := first hp b (.inScope c :: k) cs
  cases e with
  | normal => exact ⟨.normal, a₁, w₁, hq, .head step_scope (Steps.trans harr (.one step_inScope))⟩
  | exit id => exact ⟨.exit id, a₁, w₁, hq, fun k' hk => .head step_scope (harr k' (by simp [exitTo, hk]))⟩
  | goto l' =>
    rcases hq with ⟨rfl, hJ'⟩ | ⟨rfl, hE⟩
    · obtain ⟨e₂, a₂, w₂, hq₂, harr₂⟩ := key _ a₁ w₁ rfl hJ'
      exact ⟨e₂, a₂, w₂, hq₂, .of_steps (.head step_scope ((harr _ hg).trans (hskip a₁ w₁))) harr₂⟩
    · obtain ⟨e₂, a₂, w₂, hq₂, harr₂⟩ := ends a₁ w₁ hE
      exact ⟨e₂, a₂, w₂, hq₂, .of_steps (.head step_scope (harr _ hgm)) harr₂⟩
  | ret => exact ⟨_, a₁, w₁, hq, .of_steps (.one step_scope) harr⟩
  | panic ch => exact ⟨_, a₁, w₁, hq, .of_steps (.one step_scope) harr⟩
  | outgrown => exact ⟨_, a₁, w₁, hq, .of_steps (.one step_scope) harr⟩
/-! ### marks: what holds at its labels -/
def MF (sb : Nat) (all : Bool) (l : Value) (at_ : Int) (b : Value) (u : Nat → Value) : Act := ⟨#[.pointer (some ⟨sb, 0, none⟩), .bool all, u 2, u 3, u 4, l, .int .i64 at_, b, u 8, u 9, u 10, u 11, u 12, u 13, u 14, u 15, u 16, u 17, u 18, u 19, u 20, u 21, u 22, u 23, u 24, u 25, u 26, u 27, u 28, u 29, u 30, u 31, u 32, u 33, u 34, u 35, u 36, u 37, u 38, u 39, u 40, u 41, u 42, u 43, u 44, u 45, u 46, u 47, u 48, u 49, u 50, u 51, u 52, u 53, u 54, u 55, u 56, u 57, u 58, u 59, u 60, u 61, u 62, u 63, u 64, u 65, u 66], []⟩
structure MJ (W : World) (bs : List UInt8) (n k : Nat) (A : Option Addr) (c : Nat) (l : Value) (w : World) : Prop where
  le : k ≤ n
  cap : n - k ≤ c
  capm : c ≤ maxLen
  bel : Below W.heap.size W w
  br : BR w W.heap.size A (n - k) (bs.drop k)
  own : ∃ ln lxs, w.ownsRow W.heap.size 77 4 l ln lxs ∧ ln ≤ k
def AtL (sb : Nat) (all : Bool) (W : World) (bs : List UInt8) (n : Nat) (X : Nat → Prop) (a : Act) (w : World) : Prop :=
  ∃ k A c l at_ u, a = MF sb all l at_ (.slice A (n - k : Nat) c) u ∧ MJ W bs n k A c l w ∧ X k
def MarksPost (sb : Nat) (fed : Int) (rest : List UInt8) (W : World) (e : Ending) (w' : World) : Prop :=
  (∃ v, e = .returned v) ∧ Fr (fun k => k = sb) W w' ∧ ∃ hv, w'.heap[sb]? = some (.cells #[hv, .int .i64 fed] 60 (0, 0)) ∧ w'.ownsRow W.heap.size 5 1 hv rest.length (bytesV rest)
theorem drain_full {f m : Nat} {b r : List UInt8} (hm : 0 < m) (hf : m ≤ f) (h : Pieces.drain f b = r) (hb : full b) : ∃ f', f' + 1 = f ∧ Pieces.drain f' (b.drop (width b)) = r := by
  obtain ⟨f', rfl⟩ : ∃ f', f = f' + 1 := ⟨f - 1, by omega⟩
  refine ⟨f', rfl, ?_⟩
  rw [← h]
  show _ = (open Classical in if full b then Pieces.drain f' (b.drop (width b)) else b)
  rw [if_pos hb]
theorem drain_not {f : Nat} {b r : List UInt8} (h : Pieces.drain f b = r) (hb : ¬ full b) : b = r := by
  rw [← h]
  cases f with
  | zero => rfl
  | succ f =>
    show _ = (open Classical in if full b then Pieces.drain f (b.drop (width b)) else b)
    rw [if_neg hb]
end
section
open Go.Shelf Go.RowKit Go.Lib
open Pieces (bt width full)
theorem mark_info : (Tryz.prog.info? 77).map (fun i => (i.zero, i.size, i.bytes)) = some (some (.agg #[.int .i64 0, .int .i64 0, .int .i32 0, .bool false]), 4, 24) := by kernel_rfl
theorem byte_info : (Tryz.prog.info? 5).map (fun i => (i.zero, i.size, i.bytes)) = some (some (.int .u8 0), 1, 1) := by kernel_rfl
theorem one4 (a b c d : Value) (ha : a.oneCell' = true) (hb : b.oneCell' = true) (hc : c.oneCell' = true) (hd : d.oneCell' = true) : ∀ u ∈ [a, b, c, d], u.oneCell' = true := by
  intro u hu
  simp only [List.mem_cons, List.not_mem_nil, or_false] at hu
  rcases hu with rfl | rfl | rfl | rfl <;> assumption
theorem AtL.mk {sb : Nat} {all : Bool} {W : World} {bs : List UInt8} {n : Nat} {X : Nat → Prop} {a : Act} {w : World} (k m : Nat) {A : Option Addr} {c : Nat} {l : Value} {at_ : Int}
    (h : a = MF sb all l at_ (.slice A m c) (fun i => a.tmps.getD i undef)) (hm : m = n - k) (hJ : MJ W bs n k A c l w) (hX : X k) : AtL sb all W bs n X a w := ⟨k, A, c, l, at_, _, by rw [← hm]; exact h, hJ, hX⟩
theorem MJ.below {W : World} {bs : List UInt8} {n k : Nat} {A : Option Addr} {c : Nat} {l : Value} {w w1 : World} (h : MJ W bs n k A c l w) (hb : Below w.heap.size w w1) : MJ W bs n k A c l w1 := by
  obtain ⟨hk, hcap, hcapm, hbel, hbr, ln, lxs, hown, hln⟩ := h
  exact ⟨hk, hcap, hcapm, hbel.trans (hb.mono hbel.size), hbr.below (hb.mono hbel.size), ln, lxs, (Fr.of_below (T := fun _ => False) hb (Nat.le_refl _)).own hown (fun _ _ => id), hln⟩
theorem MJ.next {W : World} {bs : List UInt8} {n k m wd g off c c' ln n3 : Nat} {l v3 : Value} {lxs xs3 : List Value} {A' : Option Addr} {w w1 w2 w3 : World} {o : Obj} (h : MJ W bs n k (some ⟨g, off, none⟩) c l w) (hm : n - k = m)
    (hb1 : Below w.heap.size w w1) (hb2 : Below w1.heap.size w1 w2) (hown : w.ownsRow W.heap.size 77 4 l ln lxs) (hln : ln ≤ k) (hg3 : (w2.alloc o).grownBy w3 l.ownBlock) (hown3 : w3.ownsRow W.heap.size 77 4 v3 n3 xs3) (hn3 : n3 = ln + 1)
    (h0 : 0 < wd) (hw : wd ≤ m) (hA : k + wd < n → A' = some ⟨g, off + wd, none⟩) (hc : n - (k + wd) ≤ c') (hc2 : c' ≤ c) : MJ W bs n (k + wd) A' c' v3 w3 := by
  have hbel : Below W.heap.size W w3 := by
    have h1 := (h.bel.trans (hb1.mono h.bel.size)).trans (hb2.mono (Nat.le_trans h.bel.size hb1.size))
    refine (h1.alloc h1.size o).grown hg3 (Nat.le_trans h1.size (Nat.le_of_lt (by simp))) fun k hk => (own_lt hown hk).1
  refine ⟨by have := h.le; omega, hc, Nat.le_trans hc2 h.capm, hbel, ?_, n3, xs3, hown3, by omega⟩
  have hbr : BR W W.heap.size (some ⟨g, off, none⟩) (n - k) (bs.drop k) := by
    refine ⟨h.br.1, fun hp => ?_⟩
    obtain ⟨g', off', hA', hg', hcell⟩ := h.br.2 hp
    exact ⟨g', off', hA', hg', fun j hj => by rw [← h.bel.cell (p := ⟨g', off' + j, none⟩) hg']; exact hcell j hj⟩
  have := (hbr.drop wd (by omega) (A := A') (fun hlt => hA (by omega))).below hbel
  rw [List.drop_drop, Nat.sub_sub] at this
  exact this
theorem set_blk {w : World} {g : Nat} {t : TypeId} {cs : Array Value} (h : w.heap[g]? = some (.cells cs t (0, 0))) (i : Nat) (u : Value) : (w.setCell ⟨g, i, none⟩ u).heap[g]? = some (.cells (cs.setIfInBounds i u) t (0, 0)) := by
  simp [World.setCell, Array.getElem?_modify, h]
theorem blk_frozen {w : World} {g : Nat} {t : TypeId} {cs : Array Value} (h : w.heap[g]? = some (.cells cs t (0, 0))) (i : Nat) : w.frozen? ⟨g, i, none⟩ = false := by
  simp [World.frozen?, h]
theorem own_empty {w : World} {base : Nat} (h : base ≤ w.heap.size) : (w.alloc (.cells #[] 5)).ownsRow base 5 1 (.slice (some ⟨w.heap.size, 0, none⟩) 0 0) 0 [] :=
  ⟨rfl, .inr ⟨w.heap.size, 0, #[], rfl, h, heap_alloc_new w _, Nat.le_refl _, Nat.zero_le _, rfl, rfl⟩⟩
theorem below_blk {B : Nat} {w w' : World} (h : Below B w w') {k : Nat} {o : Obj} (hk : w.heap[k]? = some o) (hB : k < B) : w'.heap[k]? = some o := (h.block k hB).trans hk
set_option maxHeartbeats 4000000 in
set_option maxRecDepth 100000 in
theorem marks_false (sb : Nat) (A₀ : Option Addr) (n c₀ : Nat) (fed : Int) (bs : List UInt8) (W : World) (hb : W.heap[sb]? = some (.cells #[.slice A₀ n c₀, .int .i64 fed] 60 (0, 0)))
    (br : BR W W.heap.size A₀ n bs) (hn : n ≤ 4000000) (hnc : n ≤ c₀) (hcm : c₀ ≤ maxLen) (hT : Lib.Utf8Tabs 0 1 W) (_ : 2 ≤ sb) :
    Calls Tryz.prog 22 #[.pointer (some ⟨sb, 0, none⟩), .bool false] W (MarksPost sb fed (Pieces.drain n bs) W) := by
  have hc0 : W.cell? ⟨sb, 0, none⟩ = some (.slice A₀ n c₀) := by rw [cell_of_row W sb 0 _ _ _ hb]; rfl
  have hc1 : W.cell? ⟨sb, 1, none⟩ = some (.int .i64 fed) := by rw [cell_of_row W sb 1 _ _ _ hb]; rfl
  have HB := Lib.hid hb; clear hb
  have HBR := Lib.hid br; clear br
  have HT := Lib.hid hT; clear hT
  go_enter Tryz.func22, Tryz.ntmps22
  go_wp2
  apply wp_scope_two 1 0 (AtL sb false W bs n (fun k => ∃ f, n - k ≤ f ∧ Pieces.drain f (bs.drop k) = Pieces.drain n bs)) (AtL sb false W bs n (fun k => bs.drop k = Pieces.drain n bs))
    (fun a _ => match a.tmps.getD 7 undef with | .slice _ m _ => m | _ => 0) rfl rfl
  · intro hp
    go_wp2
    go_quiet (fail)
    go_wp2
    go_step3
    rename_i K hK
    refine hK _ _ (hp _ _ (AtL.mk 0 n (by rfl) rfl ⟨Nat.zero_le _, hnc, hcm, ⟨rfl, rfl, rfl, Nat.le_refl _, fun _ _ => rfl⟩, HBR.out, ⟨0, [], ⟨rfl, .inl ⟨rfl, rfl⟩⟩, Nat.le_refl _⟩⟩ ⟨n, Nat.le_refl _, rfl⟩))
  · rintro a w ⟨k, A, c, l, at_, u, rfl, hJ, f, hf, hX⟩
    obtain ⟨m, hm⟩ : ∃ m, n - k = m := ⟨_, rfl⟩
    have hJ2 := hJ
    obtain ⟨hk, hcap, hcapm, hbel, hbr, ln, lxs, hown, hln⟩ := hJ
    have HJ := Lib.hid hJ2; clear hJ2
    have HK := Lib.hid hk; have HX := Lib.hid hX; have HM := Lib.hid hm; have HO := Lib.hid hown; have HL := Lib.hid hln; have HBR2 := Lib.hid hbr; have HW := Lib.hid hbel
    have hm4 : m ≤ 4000000 := by omega
    rw [hm] at hf hcap ⊢
    unfold MF
    clear hk hX hm hown hln hbr hbel
    rcases Nat.eq_zero_or_pos m with h0 | h0
    · subst h0
      go_wp2
      go_step3
      refine .inr ⟨rfl, AtL.mk k 0 (by rfl) HM.out.symm HJ.out ?_⟩
      have hl := HBR2.out.1
      rw [HM.out] at hl
      have hX := HX.out
      rw [List.eq_nil_of_length_eq_zero hl] at hX ⊢
      rw [← hX]
      cases f with
      | zero => rfl
      | succ f => show [] = (open Classical in if full [] then _ else []); rw [if_neg (fun c => c.1 rfl)]
    · obtain ⟨g, off, rfl, hg, hcell⟩ := HBR2.out.2 (by rw [HM.out]; exact h0)
      rw [HM.out] at hcell
      have hz : ((m : Int) == 0) = false := by simp; omega
      have hT' := tabs_fr (Fr.of_below (T := fun _ => False) HW.out (Nat.le_refl _)) HT.out id id
      have HT' := Lib.hid hT'; clear hT'
      have HC := Lib.hid hcell; clear hcell
      have hlen := HBR2.out.1
      rw [HM.out] at hlen
      have HLN := Lib.hid hlen; clear hlen
      by_cases hfu : full (bs.drop k)
      · obtain ⟨wd, hwd⟩ : ∃ wd, width (bs.drop k) = wd := ⟨_, rfl⟩
        have HWD := Lib.hid hwd; clear hwd
        obtain ⟨i0, hi0, hz0, hz1, hz2⟩ := info_parts mark_info
        have hgood := Pieces.width_good (bs.drop k) hfu.1
        rw [HWD.out, HLN.out] at hgood
        have hw0 : (0 : Int) ≤ wd := by omega
        have hwm : (wd : Int) ≤ m := by omega
        have HG := Lib.hid hgood; clear hgood
        have HB1 := Lib.hid (show ln + 1 ≤ maxLen by have := HL.out; have := HK.out; simp only [maxLen]; omega)
        have HB2 := Lib.hid (show (ln + 1) * 24 ≤ 140737488355328 by have := HL.out; have := HK.out; omega)
        go_wp2_with (first
          | (go_at_call 33; refine (full_l true (bs.drop k) g off m c w HLN.out h0 hm4 HC.out HT'.out ⟨fun _ => rfl, fun _ => hfu⟩).mono ?_; rintro e w1 ⟨rfl, hb1⟩
             have HT1 := Lib.hid (tabs_fr (Fr.of_below (T := fun _ => False) hb1 (Nat.le_refl _)) HT'.out id id)
             have HC1 := Lib.hid (fun (j : Nat) (hj : j < m) => (hb1.cell (p := ⟨g, off + j, none⟩) (cell_lt (HC.out j hj))).trans (HC.out j hj)))
          | (go_at_call 34; refine (drune_l (bs.drop k) g off m c wd w1 HWD.out HLN.out h0 HT1.out HC1.out).mono ?_; rintro e w2 ⟨⟨r, rfl⟩, hb2⟩
             obtain ⟨q, hq⟩ : ∃ q, (r == 65533) = q := ⟨_, rfl⟩
             obtain ⟨q2, hq2⟩ : ∃ q2, ((wd : Int) == 1) = q2 := ⟨_, rfl⟩
             have hHO2 := (Fr.of_below (T := fun _ => False) hb2 (Nat.le_refl _)).own ((Fr.of_below (T := fun _ => False) hb1 (Nat.le_refl _)).own HO.out (fun _ _ => id)) (fun _ _ => id)
             have HO2 := Lib.hid hHO2; clear hHO2
             have hsz : W.heap.size ≤ w2.heap.size := Nat.le_trans HW.out.size (Nat.le_trans hb1.size hb2.size)
             have HSZ := Lib.hid hsz; clear hsz
             cases q)
          | (at_builtin
             (refine wpList_append_lies _ rfl (.tmp 41) (.tmp 52) 47 rfl W.heap.size 77 i0 _ 4 24 Tryz.underlying47 hi0 hz0 hz1 hz2 rfl (by omega) l ln lxs rfl ((Fr.alloc (fun _ => False) w2 _).own HO2.out (fun _ _ => id)) ⟨w2.heap.size, 0, none⟩ 1 1 [.int .i64 at_, .int .i64 wd, .int .i32 r, .bool false] rfl rfl ?_ ?_ (by omega) ?_ ?_ ?_ _ rfl ?_)
             · exact World.news_of_block (heap_alloc_new w2 _)
             · exact one4 _ _ _ _ rfl rfl rfl rfl
             · exact HB1.out
             · exact HB2.out
             · exact Nat.le_trans HSZ.out (Nat.le_of_lt (by simp))
             intro g3 cap3 w3 hown3 hgrow3 _ _)
          | (at_builtin
             (refine wpList_append_lies _ rfl (.tmp 41) (.tmp 52) 47 rfl W.heap.size 77 i0 _ 4 24 Tryz.underlying47 hi0 hz0 hz1 hz2 rfl (by omega) l ln lxs rfl ((Fr.alloc (fun _ => False) w2 _).own HO2.out (fun _ _ => id)) ⟨w2.heap.size, 0, none⟩ 1 1 [.int .i64 at_, .int .i64 wd, .int .i32 r, .bool q2] rfl rfl ?_ ?_ (by omega) ?_ ?_ ?_ _ rfl ?_)
             · exact World.news_of_block (heap_alloc_new w2 _)
             · exact one4 _ _ _ _ rfl rfl rfl rfl
             · exact HB1.out
             · exact HB2.out
             · exact Nat.le_trans HSZ.out (Nat.le_of_lt (by simp))
             intro g3 cap3 w3 hown3 hgrow3 _ _))
        all_goals go_step3
        all_goals (
          obtain ⟨f', hf', hX'⟩ := drain_full h0 hf HX.out hfu
          have hg2 := HG.out
          have hm2 := HM.out
          rw [HWD.out] at hX')
        · exact .inl ⟨rfl, AtL.mk (k + wd) (m - wd) (by rfl) (by omega) (MJ.next HJ.out HM.out hb1 hb2 HO.out HL.out hgrow3 hown3 rfl hg2.1 hg2.2 (fun c => absurd c (by omega)) (by omega) (Nat.zero_le _)) ⟨f', by omega, by rw [← List.drop_drop]; exact hX'⟩, by show m - wd < m; omega⟩
        · exact .inl ⟨rfl, AtL.mk (k + wd) (m - wd) (by rfl) (by omega) (MJ.next HJ.out HM.out hb1 hb2 HO.out HL.out hgrow3 hown3 rfl hg2.1 hg2.2 (fun _ => rfl) (by omega) (by omega)) ⟨f', by omega, by rw [← List.drop_drop]; exact hX'⟩, by show m - wd < m; omega⟩
        · exact .inl ⟨rfl, AtL.mk (k + wd) (m - wd) (by rfl) (by omega) (MJ.next HJ.out HM.out hb1 hb2 HO.out HL.out hgrow3 hown3 rfl hg2.1 hg2.2 (fun c => absurd c (by omega)) (by omega) (Nat.zero_le _)) ⟨f', by omega, by rw [← List.drop_drop]; exact hX'⟩, by show m - wd < m; omega⟩
        · exact .inl ⟨rfl, AtL.mk (k + wd) (m - wd) (by rfl) (by omega) (MJ.next HJ.out HM.out hb1 hb2 HO.out HL.out hgrow3 hown3 rfl hg2.1 hg2.2 (fun _ => rfl) (by omega) (by omega)) ⟨f', by omega, by rw [← List.drop_drop]; exact hX'⟩, by show m - wd < m; omega⟩
      · go_wp2_with (go_at_call 33; refine (full_l false (bs.drop k) g off m c w HLN.out h0 hm4 HC.out HT'.out ⟨fun h => absurd h hfu, fun h => by cases h⟩).mono ?_; rintro e w1 ⟨rfl, hb1⟩)
        go_step3
        exact .inr ⟨rfl, AtL.mk k m (by rfl) HM.out.symm (HJ.out.below hb1) (drain_not HX.out hfu)⟩
  · rintro a w ⟨k, A, c, l, at_, u, rfl, hJ, hX⟩
    obtain ⟨m, hm⟩ : ∃ m, n - k = m := ⟨_, rfl⟩
    have HJ := Lib.hid hJ; clear hJ
    have HX := Lib.hid hX; clear hX
    have HM := Lib.hid hm
    rw [hm]; clear hm
    unfold MF
    obtain ⟨i0, hi0, hz0, hz1, hz2⟩ := info_parts byte_info
    have hsz := HJ.out.bel.size
    have hsb : sb < W.heap.size := heap_lt HB.out
    have hm4 : m ≤ 4000000 := by have := HM.out; omega
    have HSZ := Lib.hid hsz; clear hsz
    have HSB := Lib.hid hsb; clear hsb
    have hsrc := (HJ.out.br.below ((Below.refl w.heap.size w).alloc (Nat.le_refl _) (.cells #[] 5) |>.mono HSZ.out)).src
    rw [HM.out] at hsrc
    have HS := Lib.hid hsrc; clear hsrc
    go_wp2_with (at_builtin
                 (refine wpList_app _ rfl (.tmp 61) (.tmp 62) 31 rfl W.heap.size 5 i0 _ 1 Tryz.underlying31 hi0 hz0 hz1 hz2 rfl (.slice (some ⟨w.heap.size, 0, none⟩) 0 0) 0 [] rfl (own_empty HSZ.out) A m c (bytesV (bs.drop k)) rfl HS.out (bytesV_one _) ?_ ?_ ?_ ?_)
                 · simp only [maxLen]; omega
                 · omega
                 · exact Nat.le_trans HSZ.out (Nat.le_of_lt (by simp))
                 intro v' w' hown' hgrow' _
                 obtain ⟨A', c', rfl, _⟩ := own_slice hown'
                 have hbel' : Below W.heap.size W w' := (HJ.out.bel.alloc HSZ.out (.cells #[] 5)).grown hgrow' (Nat.le_trans HSZ.out (Nat.le_of_lt (by simp))) (fun j hj => by cases hj; exact HSZ.out)
                 have hbb := below_blk hbel' HB.out HSB.out
                 have hcS : w'.cell? ⟨sb, 0, none⟩ = some (.slice A₀ n c₀) := by rw [cell_of_row w' sb 0 _ _ _ hbb]; rfl
                 have hfS := blk_frozen hbb 0
                 have HBB := Lib.hid hbb; clear hbb
                 have HBEL := Lib.hid hbel'; clear hbel'
                 have HOWN := Lib.hid hown'; clear hown')
    rw [Exit.noGoto_ret]
    go_ret
    have hl : (bs.drop k).length = m := by rw [← HM.out]; exact HJ.out.br.1
    rw [← HX.out]
    refine ⟨⟨_, rfl⟩, (Fr.of_below HBEL.out (Nat.le_refl _)).trans (Fr.set _ _ _ (fun _ => rfl)), _, set_blk HBB.out 0 _, ?_⟩
    have := HOWN.out
    rw [Nat.zero_add, List.nil_append] at this
    rw [hl]
    exact ownsRow_setCell_below this HSB.out _
end
section
open Go.Shelf Go.RowKit Go.Lib
open Pieces (bt width full)
set_option maxHeartbeats 4000000 in
set_option maxRecDepth 100000 in
theorem marks_true (sb : Nat) (A₀ : Option Addr) (n c₀ : Nat) (fed : Int) (bs : List UInt8) (W : World) (hb : W.heap[sb]? = some (.cells #[.slice A₀ n c₀, .int .i64 fed] 60 (0, 0)))
    (br : BR W W.heap.size A₀ n bs) (hn : n ≤ 4000000) (hnc : n ≤ c₀) (hcm : c₀ ≤ maxLen) (hT : Lib.Utf8Tabs 0 1 W) (_ : 2 ≤ sb) :
    Calls Tryz.prog 22 #[.pointer (some ⟨sb, 0, none⟩), .bool true] W (MarksPost sb fed [] W) := by
  have hc0 : W.cell? ⟨sb, 0, none⟩ = some (.slice A₀ n c₀) := by rw [cell_of_row W sb 0 _ _ _ hb]; rfl
  have hc1 : W.cell? ⟨sb, 1, none⟩ = some (.int .i64 fed) := by rw [cell_of_row W sb 1 _ _ _ hb]; rfl
  have HB := Lib.hid hb; clear hb
  have HBR := Lib.hid br; clear br
  have HT := Lib.hid hT; clear hT
  go_enter Tryz.func22, Tryz.ntmps22
  go_wp2
  apply wp_scope_two 1 0 (AtL sb true W bs n (fun _ => True)) (AtL sb true W bs n (fun k => bs.drop k = []))
    (fun a _ => match a.tmps.getD 7 undef with | .slice _ m _ => m | _ => 0) rfl rfl
  · intro hp
    go_wp2
    go_quiet (fail)
    go_wp2
    go_step3
    rename_i K hK
    refine hK _ _ (hp _ _ (AtL.mk 0 n (by rfl) rfl ⟨Nat.zero_le _, hnc, hcm, ⟨rfl, rfl, rfl, Nat.le_refl _, fun _ _ => rfl⟩, HBR.out, ⟨0, [], ⟨rfl, .inl ⟨rfl, rfl⟩⟩, Nat.le_refl _⟩⟩ trivial))
  · rintro a w ⟨k, A, c, l, at_, u, rfl, hJ, _⟩
    obtain ⟨m, hm⟩ : ∃ m, n - k = m := ⟨_, rfl⟩
    have hJ2 := hJ
    obtain ⟨hk, hcap, hcapm, hbel, hbr, ln, lxs, hown, hln⟩ := hJ
    have HJ := Lib.hid hJ2; clear hJ2
    have HK := Lib.hid hk; have HM := Lib.hid hm; have HO := Lib.hid hown; have HL := Lib.hid hln; have HBR2 := Lib.hid hbr; have HW := Lib.hid hbel
    have hm4 : m ≤ 4000000 := by omega
    rw [hm] at hcap ⊢
    unfold MF
    clear hk hm hown hln hbr hbel
    rcases Nat.eq_zero_or_pos m with h0 | h0
    · subst h0
      go_wp2
      go_step3
      refine .inr ⟨rfl, AtL.mk k 0 (by rfl) HM.out.symm HJ.out ?_⟩
      have hl := HBR2.out.1
      rw [HM.out] at hl
      exact List.eq_nil_of_length_eq_zero hl
    · obtain ⟨g, off, rfl, hg, hcell⟩ := HBR2.out.2 (by rw [HM.out]; exact h0)
      rw [HM.out] at hcell
      have hz : ((m : Int) == 0) = false := by simp; omega
      have hT' := tabs_fr (Fr.of_below (T := fun _ => False) HW.out (Nat.le_refl _)) HT.out id id
      have HT' := Lib.hid hT'; clear hT'
      have HC := Lib.hid hcell; clear hcell
      have hlen := HBR2.out.1
      rw [HM.out] at hlen
      have HLN := Lib.hid hlen; clear hlen
      obtain ⟨wd, hwd⟩ : ∃ wd, width (bs.drop k) = wd := ⟨_, rfl⟩
      have HWD := Lib.hid hwd; clear hwd
      obtain ⟨i0, hi0, hz0, hz1, hz2⟩ := info_parts mark_info
      have hgood := Pieces.width_good (bs.drop k) (by intro c; have := HLN.out; rw [c] at this; simp at this; omega)
      rw [HWD.out, HLN.out] at hgood
      have hw0 : (0 : Int) ≤ wd := by omega
      have hwm : (wd : Int) ≤ m := by omega
      have HG := Lib.hid hgood; clear hgood
      have HB1 := Lib.hid (show ln + 1 ≤ maxLen by have := HL.out; have := HK.out; simp only [maxLen]; omega)
      have HB2 := Lib.hid (show (ln + 1) * 24 ≤ 140737488355328 by have := HL.out; have := HK.out; omega)
      go_wp2_with (first
        | (go_at_call 34; refine (drune_l (bs.drop k) g off m c wd w HWD.out HLN.out h0 HT'.out HC.out).mono ?_; rintro e w2 ⟨⟨r, rfl⟩, hb2⟩
           obtain ⟨q, hq⟩ : ∃ q, (r == 65533) = q := ⟨_, rfl⟩
           obtain ⟨q2, hq2⟩ : ∃ q2, ((wd : Int) == 1) = q2 := ⟨_, rfl⟩
           have hHO2 := (Fr.of_below (T := fun _ => False) hb2 (Nat.le_refl _)).own HO.out (fun _ _ => id)
           have HO2 := Lib.hid hHO2; clear hHO2
           have hsz : W.heap.size ≤ w2.heap.size := Nat.le_trans HW.out.size hb2.size
           have HSZ := Lib.hid hsz; clear hsz
           cases q)
        | (at_builtin
           (refine wpList_append_lies _ rfl (.tmp 41) (.tmp 52) 47 rfl W.heap.size 77 i0 _ 4 24 Tryz.underlying47 hi0 hz0 hz1 hz2 rfl (by omega) l ln lxs rfl ((Fr.alloc (fun _ => False) w2 _).own HO2.out (fun _ _ => id)) ⟨w2.heap.size, 0, none⟩ 1 1 [.int .i64 at_, .int .i64 wd, .int .i32 r, .bool false] rfl rfl ?_ ?_ (by omega) ?_ ?_ ?_ _ rfl ?_)
           · exact World.news_of_block (heap_alloc_new w2 _)
           · exact one4 _ _ _ _ rfl rfl rfl rfl
           · exact HB1.out
           · exact HB2.out
           · exact Nat.le_trans HSZ.out (Nat.le_of_lt (by simp))
           intro g3 cap3 w3 hown3 hgrow3 _ _)
        | (at_builtin
           (refine wpList_append_lies _ rfl (.tmp 41) (.tmp 52) 47 rfl W.heap.size 77 i0 _ 4 24 Tryz.underlying47 hi0 hz0 hz1 hz2 rfl (by omega) l ln lxs rfl ((Fr.alloc (fun _ => False) w2 _).own HO2.out (fun _ _ => id)) ⟨w2.heap.size, 0, none⟩ 1 1 [.int .i64 at_, .int .i64 wd, .int .i32 r, .bool q2] rfl rfl ?_ ?_ (by omega) ?_ ?_ ?_ _ rfl ?_)
           · exact World.news_of_block (heap_alloc_new w2 _)
           · exact one4 _ _ _ _ rfl rfl rfl rfl
           · exact HB1.out
           · exact HB2.out
           · exact Nat.le_trans HSZ.out (Nat.le_of_lt (by simp))
           intro g3 cap3 w3 hown3 hgrow3 _ _))
      all_goals go_step3
      all_goals (
        have hg2 := HG.out
        have hm2 := HM.out)
      · exact .inl ⟨rfl, AtL.mk (k + wd) (m - wd) (by rfl) (by omega) (MJ.next HJ.out HM.out (Below.refl _ _) hb2 HO.out HL.out hgrow3 hown3 rfl hg2.1 hg2.2 (fun c => absurd c (by omega)) (by omega) (Nat.zero_le _)) trivial, by show m - wd < m; omega⟩
      · exact .inl ⟨rfl, AtL.mk (k + wd) (m - wd) (by rfl) (by omega) (MJ.next HJ.out HM.out (Below.refl _ _) hb2 HO.out HL.out hgrow3 hown3 rfl hg2.1 hg2.2 (fun _ => rfl) (by omega) (by omega)) trivial, by show m - wd < m; omega⟩
      · exact .inl ⟨rfl, AtL.mk (k + wd) (m - wd) (by rfl) (by omega) (MJ.next HJ.out HM.out (Below.refl _ _) hb2 HO.out HL.out hgrow3 hown3 rfl hg2.1 hg2.2 (fun c => absurd c (by omega)) (by omega) (Nat.zero_le _)) trivial, by show m - wd < m; omega⟩
      · exact .inl ⟨rfl, AtL.mk (k + wd) (m - wd) (by rfl) (by omega) (MJ.next HJ.out HM.out (Below.refl _ _) hb2 HO.out HL.out hgrow3 hown3 rfl hg2.1 hg2.2 (fun _ => rfl) (by omega) (by omega)) trivial, by show m - wd < m; omega⟩
  · rintro a w ⟨k, A, c, l, at_, u, rfl, hJ, hX⟩
    obtain ⟨m, hm⟩ : ∃ m, n - k = m := ⟨_, rfl⟩
    have HJ := Lib.hid hJ; clear hJ
    have HX := Lib.hid hX; clear hX
    have HM := Lib.hid hm
    rw [hm]; clear hm
    unfold MF
    obtain ⟨i0, hi0, hz0, hz1, hz2⟩ := info_parts byte_info
    have hsz := HJ.out.bel.size
    have hsb : sb < W.heap.size := heap_lt HB.out
    have hm4 : m ≤ 4000000 := by have := HM.out; omega
    have HSZ := Lib.hid hsz; clear hsz
    have HSB := Lib.hid hsb; clear hsb
    have hsrc := (HJ.out.br.below ((Below.refl w.heap.size w).alloc (Nat.le_refl _) (.cells #[] 5) |>.mono HSZ.out)).src
    rw [HM.out] at hsrc
    have HS := Lib.hid hsrc; clear hsrc
    go_wp2_with (at_builtin
                 (refine wpList_app _ rfl (.tmp 61) (.tmp 62) 31 rfl W.heap.size 5 i0 _ 1 Tryz.underlying31 hi0 hz0 hz1 hz2 rfl (.slice (some ⟨w.heap.size, 0, none⟩) 0 0) 0 [] rfl (own_empty HSZ.out) A m c (bytesV (bs.drop k)) rfl HS.out (bytesV_one _) ?_ ?_ ?_ ?_)
                 · simp only [maxLen]; omega
                 · omega
                 · exact Nat.le_trans HSZ.out (Nat.le_of_lt (by simp))
                 intro v' w' hown' hgrow' _
                 obtain ⟨A', c', rfl, _⟩ := own_slice hown'
                 have hbel' : Below W.heap.size W w' := (HJ.out.bel.alloc HSZ.out (.cells #[] 5)).grown hgrow' (Nat.le_trans HSZ.out (Nat.le_of_lt (by simp))) (fun j hj => by cases hj; exact HSZ.out)
                 have hbb := below_blk hbel' HB.out HSB.out
                 have hcS : w'.cell? ⟨sb, 0, none⟩ = some (.slice A₀ n c₀) := by rw [cell_of_row w' sb 0 _ _ _ hbb]; rfl
                 have hfS := blk_frozen hbb 0
                 have HBB := Lib.hid hbb; clear hbb
                 have HBEL := Lib.hid hbel'; clear hbel'
                 have HOWN := Lib.hid hown'; clear hown')
    rw [Exit.noGoto_ret]
    go_ret
    have hl : (bs.drop k).length = m := by rw [← HM.out]; exact HJ.out.br.1
    rw [← HX.out]
    refine ⟨⟨_, rfl⟩, (Fr.of_below HBEL.out (Nat.le_refl _)).trans (Fr.set _ _ _ (fun _ => rfl)), _, set_blk HBB.out 0 _, ?_⟩
    have := HOWN.out
    rw [Nat.zero_add, List.nil_append] at this
    rw [hl]
    exact ownsRow_setCell_below this HSB.out _
end
section
open Go.Shelf Go.RowKit Go.Lib
open Pieces (bt width full)
/-! ### the scanner's other functions -/
structure Sc (w : World) (sb : Nat) (hv : Value) (fed : Int) (held : List UInt8) (base : Nat) : Prop where
  blk : w.heap[sb]? = some (.cells #[hv, .int .i64 fed] 60 (0, 0))
  own : w.ownsRow base 5 1 hv held.length (bytesV held)
theorem NewScanner_ok (w : World) : Calls Tryz.prog 14 #[] w fun e w' => e = .returned (.pointer (some ⟨w.heap.size, 0, none⟩)) ∧ w' = w.alloc (.cells #[.slice none 0 0, .int .i64 0] 60) := by
  go_enter Tryz.func14, Tryz.ntmps14
  go_wp2
  go_ret
  exact ⟨rfl, rfl⟩
theorem Held_ok (sb n : Nat) (A : Option Addr) (c : Nat) (w : World) (h : w.cell? ⟨sb, 0, none⟩ = some (.slice A n c)) :
    Calls Tryz.prog 17 #[.pointer (some ⟨sb, 0, none⟩)] w fun e w' => e = .returned (.int .i64 n) ∧ w' = w := by
  go_enter Tryz.func17, Tryz.ntmps17
  go_wp2
  go_ret
  exact ⟨rfl, rfl⟩
def FeedPost (sb : Nat) (hv : Value) (rest : List UInt8) (W : World) (e : Ending) (w' : World) : Prop :=
  (∃ v, e = .returned v) ∧ Fr (fun k => k = sb ∨ hv.ownBlock = some k) W w' ∧ ∃ hv' fed', Sc w' sb hv' fed' rest W.heap.size
set_option maxHeartbeats 2000000 in
set_option maxRecDepth 100000 in
theorem Feed_ok (sb : Nat) (hv : Value) (fed : Int) (held p : List UInt8) (base : Nat) (A : Option Addr) (m c n : Nat) (W : World) (hS : Sc W sb hv fed held base) (hp : BR W W.heap.size A m p) (hbase : base ≤ W.heap.size)
    (hn : held.length = n) (hsm : n + m ≤ 4000000) (hT : Lib.Utf8Tabs 0 1 W) (hs2 : 2 ≤ sb) (h2 : ∀ g, hv.ownBlock = some g → 2 ≤ g) :
    Calls Tryz.prog 15 #[.pointer (some ⟨sb, 0, none⟩), .slice A m c] W (FeedPost sb hv (Pieces.drain (n + m) (held ++ p)) W) := by
  have hsb := heap_lt hS.blk
  have hown := hS.own
  rw [hn] at hown
  obtain ⟨A0, c0, rfl, _⟩ := own_slice hown
  have hc0 : W.cell? ⟨sb, 0, none⟩ = some (.slice A0 n c0) := by rw [cell_of_row W sb 0 _ _ _ hS.blk]; rfl
  have hne : ∀ g, (Value.slice A0 n c0).ownBlock = some g → g ≠ sb := fun g hg c => by
    obtain ⟨_, _, cur, hcur⟩ := own_lt hown hg
    rw [c, hS.blk] at hcur
    injection hcur with hcur; injection hcur with _ ht
    cases ht
  obtain ⟨i0, hi0, hz0, hz1, hz2⟩ := info_parts byte_info
  have hsrc := hp.src
  have HS := Lib.hid hS; have HP := Lib.hid hp; have HO := Lib.hid hown; have HT := Lib.hid hT; have HN := Lib.hid hne; have HSRC := Lib.hid hsrc; have HB := Lib.hid hbase; have HSB := Lib.hid hsb; have HNL := Lib.hid hn; have H2 := Lib.hid h2
  clear hS hp hown hT hne hsrc hbase hsb hn h2
  go_enter Tryz.func15, Tryz.ntmps15
  go_wp2_with (first
    | (at_builtin
       (refine wpList_app _ rfl (.tmp 11) (.tmp 12) 31 rfl base 5 i0 _ 1 Tryz.underlying31 hi0 hz0 hz1 hz2 rfl (.slice A0 n c0) n (bytesV held) rfl HO.out A m c (bytesV p) rfl HSRC.out (bytesV_one _) ?_ ?_ HB.out ?_)
       · simp only [maxLen]; omega
       · omega
       intro v' w1 hown' hgrow' hat'
       obtain ⟨A', c', rfl, _, _, hnc', hcm'⟩ := own_slice hown'
       have hfr1 : Fr (fun k => (Value.slice A0 n c0).ownBlock = some k) W w1 := Fr.grown hgrow' (fun k hk _ => hk)
       have hbb := hfr1.blk HS.out.blk (fun c => HN.out sb c rfl)
       have hcS : w1.cell? ⟨sb, 0, none⟩ = some (.slice A0 n c0) := by rw [cell_of_row w1 sb 0 _ _ _ hbb]; rfl
       have hcS1 : w1.cell? ⟨sb, 1, none⟩ = some (.int .i64 fed) := by rw [cell_of_row w1 sb 1 _ _ _ hbb]; rfl
       have hfS := blk_frozen hbb 0
       have hfS1 := blk_frozen hbb 1
       have hbb2 := set_blk hbb 0 (.slice A' (n + m) c')
       have hfS2 := blk_frozen hbb2 1
       have HFR := Lib.hid hfr1; have HBB := Lib.hid hbb2; have HOWN := Lib.hid hown'; have HAT := Lib.hid hat'; have HNC := Lib.hid hnc'; have HCM := Lib.hid hcm'
       clear hfr1 hbb hbb2 hown' hat' hnc' hcm')
    | (go_at_call 22
       (
       have hneA : ∀ g, (Value.slice A' (n + m) c').ownBlock = some g → ¬ g = sb := fun g hg => by
         rcases HAT.out with h | h
         · rw [h] at hg; exact HN.out g hg
         · rw [h] at hg
           have : W.heap.size = g := by simpa using hg
           have := HSB.out
           omega
       have hfr2 : Fr (fun k => k = sb) w1 ((w1.setCell ⟨sb, 0, none⟩ (.slice A' (n + m) c')).setCell ⟨sb, 1, none⟩ (.int .i64 (wrap64 (fed + m)))) :=
         (Fr.set (T := fun k => k = sb) w1 ⟨sb, 0, none⟩ _ (fun _ => rfl)).trans (Fr.set (T := fun k => k = sb) _ ⟨sb, 1, none⟩ _ (fun _ => rfl))
       have hown2 := hfr2.own HOWN.out hneA
       rw [← bytesV_app] at hown2
       obtain ⟨hl2, A2, c2, he2, hbr2, _⟩ := BR.of_own hown2
       injection he2 with he2 he3 he4
       subst he2
       (refine (marks_false sb A' (n + m) c' (wrap64 (fed + m)) (held ++ p) _ (set_blk HBB.out 1 _) hbr2 hsm HNC.out HCM.out ?_ hs2).mono ?_)
       · exact tabs_fr (hfr2.trans' (Fr.refl (fun k => k = sb) _) (fun _ _ => id)) (tabs_fr HFR.out HT.out (fun c => absurd (H2.out 0 c) (by omega)) (fun c => absurd (H2.out 1 c) (by omega))) (by omega) (by omega)
       rintro e w' ⟨⟨v, rfl⟩, hfr3, hv3, hblk3, hown3⟩)))
  go_ret
  refine ⟨⟨_, rfl⟩, ?_, hv3, _, hblk3, own_base hown3 fun g hg => Nat.le_trans (Nat.le_trans HFR.out.size hfr2.size) (own_lt hown3 hg).1⟩
  exact (HFR.out.mono (fun k _ h => .inr h)).trans ((hfr2.mono (fun k _ h => .inl h)).trans (hfr3.mono (fun k _ h => .inl h)))
/-- Close tells what it tells; the scanner stays a scanner -/
theorem SClose_ok (sb : Nat) (hv : Value) (fed : Int) (held : List UInt8) (base n : Nat) (W : World) (hS : Sc W sb hv fed held base) (hn : held.length = n) (hsm : n ≤ 4000000) (hT : Lib.Utf8Tabs 0 1 W) (hs2 : 2 ≤ sb) :
    Calls Tryz.prog 18 #[.pointer (some ⟨sb, 0, none⟩)] W fun e w' => (∃ v, e = .returned v) ∧ Fr (fun k => k = sb) W w' := by
  have hown := hS.own
  obtain ⟨hl, A, c, rfl, hbr, _, hnc, hcm⟩ := BR.of_own hown
  rw [hn] at hbr hnc
  have hb := hS.blk
  rw [hn] at hb
  have hc0 : W.cell? ⟨sb, 0, none⟩ = some (.slice A n c) := by rw [cell_of_row W sb 0 _ _ _ hb]; rfl
  have HB := Lib.hid hb; have HBR := Lib.hid hbr; have HT := Lib.hid hT
  clear hS hown hb hbr hT hl
  go_enter Tryz.func18, Tryz.ntmps18
  go_wp2_with
    (go_at_call 22
     (refine (marks_true sb A n c fed held W HB.out HBR.out hsm hnc hcm HT.out hs2).mono ?_)
     rintro e w' ⟨⟨v, rfl⟩, hfr3, hv3, hblk3, hown3⟩
     have hcS1 : w'.cell? ⟨sb, 1, none⟩ = some (.int .i64 fed) := by rw [cell_of_row w' sb 1 _ _ _ hblk3]; rfl
     have hfS1 := blk_frozen hblk3 1)
  go_ret
  exact ⟨⟨_, rfl⟩, hfr3.trans (Fr.set (T := fun k => k = sb) _ ⟨sb, 1, none⟩ _ (fun _ => rfl))⟩
end
end Go.Proofs.YtfmnninijakknaaGreatDoor.searchPieces
