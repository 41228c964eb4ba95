/- FoldPieces, walked: utf.Is, Count, Valid; the law itself, where open and live are given. -/
import Derived.Test.YtnfghboholehdaaGreatDoorFC
import Derived.Shelf.Utf8.RuneCount
import Derived.Shelf.Unicode.ValidAny
import Derived.BigCall
namespace Go.Proofs.YtnfghboholehdaaGreatDoor.foldPieces
section
open Go.Shelf Go.RowKit Go.Lib Go.Proofs.YtnfghboholehdaaGreatDoor.Am
open Folds (dec dec_pos dec_le)
def Tryz.lays195_ren : Go.Shelf.Ren := ⟨fun | 195 => 52 | n => n, fun | 9 => 9 | 3 => 3 | 0 => 0 | 4 => 4 | n => n, fun | n => n⟩
theorem Tryz.lays195 : Go.Proofs.Lays.n195 Tryz.prog Tryz.lays195_ren := {
  mixed := by kernel_rfl
  f195 := Tryz.func52.trans (congrArg some (by kernel_rfl))
  t0 := Tryz.underlying0
  a0 := Tryz.isAgg0
  z0 := Tryz.sizeOf0
  v0 := Tryz.zeroValue0
  t3 := Tryz.underlying3
  a3 := Tryz.isAgg3
  z3 := Tryz.sizeOf3
  v3 := Tryz.zeroValue3
  t4 := Tryz.underlying4
  a4 := Tryz.isAgg4
  z4 := Tryz.sizeOf4
  v4 := Tryz.zeroValue4
  t9 := Tryz.underlying9
  a9 := Tryz.isAgg9
  z9 := Tryz.sizeOf9
  v9 := Tryz.zeroValue9 }
def Tryz.lays196_ren : Go.Shelf.Ren := ⟨fun | 196 => 53 | 259 => 84 | n => n, fun | 9 => 9 | 4 => 4 | 3 => 3 | 5 => 5 | 12 => 12 | 119 => 130 | 0 => 0 | 46 => 100 | 139 => 133 | 138 => 132 | 53 => 158 | n => n, fun | 3 => 0 | 4 => 1 | n => n⟩
theorem Tryz.lays196 : Go.Proofs.Lays.n196 Tryz.prog Tryz.lays196_ren := {
  mixed := by kernel_rfl
  f196 := Tryz.func53.trans (congrArg some (by kernel_rfl))
  f259 := Tryz.func84.trans (congrArg some (by kernel_rfl))
  t0 := Tryz.underlying0
  a0 := Tryz.isAgg0
  z0 := Tryz.sizeOf0
  v0 := Tryz.zeroValue0
  t3 := Tryz.underlying3
  a3 := Tryz.isAgg3
  z3 := Tryz.sizeOf3
  v3 := Tryz.zeroValue3
  t4 := Tryz.underlying4
  a4 := Tryz.isAgg4
  z4 := Tryz.sizeOf4
  v4 := Tryz.zeroValue4
  t5 := Tryz.underlying5
  a5 := Tryz.isAgg5
  z5 := Tryz.sizeOf5
  v5 := Tryz.zeroValue5
  t9 := Tryz.underlying9
  a9 := Tryz.isAgg9
  z9 := Tryz.sizeOf9
  v9 := Tryz.zeroValue9
  t12 := Tryz.underlying12
  a12 := Tryz.isAgg12
  z12 := Tryz.sizeOf12
  v12 := Tryz.zeroValue12
  t46 := Tryz.underlying100
  a46 := Tryz.isAgg100
  z46 := Tryz.sizeOf100
  v46 := Tryz.zeroValue100
  t53 := Tryz.underlying158
  a53 := Tryz.isAgg158
  z53 := Tryz.sizeOf158
  v53 := Tryz.zeroValue158
  t119 := Tryz.underlying130
  a119 := Tryz.isAgg130
  z119 := Tryz.sizeOf130
  t138 := Tryz.underlying132
  a138 := Tryz.isAgg132
  z138 := Tryz.sizeOf132
  v138 := Tryz.zeroValue132
  t139 := Tryz.underlying133
  a139 := Tryz.isAgg133
  z139 := Tryz.sizeOf133
  v139 := Tryz.zeroValue133
  g3 := by kernel_rfl
  g4 := by kernel_rfl }
theorem Count_ok (t : List UInt8) (W : World) (hn : t.length ≤ 1000000) : Calls Tryz.prog 26 #[.string ⟨t.toArray⟩] W fun e w' => e = .returned (.int .i64 (Lib.runeCount ⟨t.toArray⟩)) ∧ Below W.heap.size W w' := by
  have h1 := Any.utf8_RuneCountInString Tryz.lays195 ⟨t.toArray⟩ W (by rw [size_mk t _ rfl]; omega)
  obtain ⟨s, hs⟩ : ∃ s : ByteArray, (⟨t.toArray⟩ : ByteArray) = s := ⟨_, rfl⟩
  rw [hs] at h1 ⊢
  clear hs
  obtain ⟨c, hc⟩ : ∃ c, Lib.runeCount s = c := ⟨_, rfl⟩
  rw [hc] at h1 ⊢
  have H := Lib.hid h1; clear h1 hc
  go_enter Tryz.func26, Tryz.ntmps26
  go_wp2_with (go_at_call 52; refine H.out.mono ?_; rintro e w1 ⟨rfl, pos, rfl⟩)
  go_ret
  exact ⟨rfl, (Below.refl _ W).alloc (Nat.le_refl _) _⟩
theorem Valid_ok (t : List UInt8) (W : World) (hn : t.length ≤ 1000000) (hT : Lib.Utf8Tabs 0 1 W) : Calls Tryz.prog 27 #[.string ⟨t.toArray⟩] W fun e w' => e = .returned (.bool (Lib.validD t)) ∧ Below W.heap.size W w' := by
  have h1 := Any.utf8_ValidString Tryz.lays196 ⟨t.toArray⟩ W (by rw [size_mk t _ rfl]; omega) hT
  have hd : (⟨t.toArray⟩ : ByteArray).data.toList = t := by simp
  rw [hd] at h1
  clear hd
  obtain ⟨s, hs⟩ : ∃ s : ByteArray, (⟨t.toArray⟩ : ByteArray) = s := ⟨_, rfl⟩
  rw [hs] at h1 ⊢
  clear hs
  obtain ⟨c, hc⟩ : ∃ c, Lib.validD t = c := ⟨_, rfl⟩
  rw [hc] at h1 ⊢
  have H := Lib.hid h1; clear h1 hc
  go_enter Tryz.func27, Tryz.ntmps27
  go_wp2_with (go_at_call 53; refine H.out.mono ?_; rintro e w1 ⟨rfl, hb⟩)
  go_ret
  exact ⟨rfl, hb⟩
/-- what Is looks at, so many bytes ahead -/
def edgeAt (a b : List UInt8) (j : Nat) : Bool := decide (a.length < j) || (decide ((dec (a.drop (a.length - j) ++ b)).2 ≤ j) || (decide ((dec (a.drop (a.length - j) ++ b)).1 = 65533) && decide ((dec (a.drop (a.length - j) ++ b)).2 = 1)))
theorem isEdge_eq (a b : List UInt8) : Folds.isEdge a b = (edgeAt a b 1 && (edgeAt a b 2 && edgeAt a b 3)) := by
  unfold Folds.isEdge edgeAt
  simp [List.range_succ]
def IsPost (a b : List UInt8) (W : World) (e : Ending) (w' : World) : Prop := e = .returned (.bool (Folds.isEdge a b)) ∧ Below W.heap.size W w'
set_option maxHeartbeats 1000000 in
set_option maxRecDepth 100000 in
theorem Is_ok (a b : List UInt8) (W : World) (hT : Lib.Utf8Tabs 0 1 W) (ha : a.length ≤ 100000) (hb : b.length ≤ 100000) :
    Calls Tryz.prog 25 #[.string ⟨(a ++ b).toArray⟩, .int .i64 a.length] W (IsPost a b W) := by
  obtain ⟨n, hn⟩ : ∃ n, a.length = n := ⟨_, rfl⟩
  obtain ⟨s, hs⟩ : ∃ s : ByteArray, (⟨(a ++ b).toArray⟩ : ByteArray) = s := ⟨_, rfl⟩
  have hss : s.size = (a ++ b).length := size_mk _ s hs
  rw [List.length_append, hn] at hss
  rw [hn] at ha ⊢
  rw [hs]
  have HT := Lib.hid hT; have HS := Lib.hid hs; have HN := Lib.hid hn; have HSS := Lib.hid hss; have HA := Lib.hid ha
  clear hT hs hn
  have c1 : (0 : Int) ≤ n := Int.natCast_nonneg n
  have c2 : (n : Int) ≤ s.size := by omega
  have d0 : decide ((n : Int) < 0) = false := decide_eq_false (by omega)
  have ds : decide (s.size < n) = false := decide_eq_false (by omega)
  have di : decide ((s.size : Int) < n) = false := decide_eq_false (by omega)
  clear hss hb
  go_enter Tryz.func25, Tryz.ntmps25
  go_wp2
  go_loopw [5] (fun i wr => ∃ j : Nat, 1 ≤ j ∧ j ≤ 4 ∧ i = .int .i64 j ∧ (∀ k, 1 ≤ k → k < j → edgeAt a b k = true) ∧ Below W.heap.size W wr) (fun i _ => 4 - (RowKit.intOf i).toNat)
  case atStart => exact ⟨1, by omega, by omega, rfl, fun k h1 h2 => by omega, Below.refl _ _⟩
  case round =>
    obtain ⟨j, hj1, hj4, rfl, hall, hb⟩ := hrel
    have HB := Lib.hid hb; have HALL := Lib.hid hall; clear hb hall
    by_cases h4 : j < 4
    · by_cases hjn : j ≤ n
      · obtain ⟨x, hx⟩ : ∃ x, wrap64 ((n : Int) - j) = x := ⟨_, rfl⟩
        have hxv : x = ((n - j : Nat) : Int) := by rw [← hx]; unfold wrap64; omega
        have hdr : (a ++ b).drop (n - j) = a.drop (n - j) ++ b := List.drop_append_of_le_length (by rw [HN.out]; omega)
        have hne : a.drop (n - j) ++ b ≠ [] := by
          intro c
          have := congrArg List.length c
          rw [List.length_append, List.length_drop, HN.out] at this
          simp at this; omega
        have hsl : s.extract (n - j) s.size = ⟨(a.drop (n - j) ++ b).toArray⟩ := by rw [pc_ext (a ++ b) (n - j) s HS.out, hdr]
        have he : edgeAt a b j = (decide ((dec (a.drop (n - j) ++ b)).2 ≤ j) || (decide ((dec (a.drop (n - j) ++ b)).1 = 65533) && decide ((dec (a.drop (n - j) ++ b)).2 = 1))) := by
          unfold edgeAt
          rw [HN.out, decide_eq_false (show ¬ n < j by omega)]; rfl
        obtain ⟨y, hy⟩ : ∃ y, a.drop (n - j) ++ b = y := ⟨_, rfl⟩
        rw [hy] at hsl he hne
        have HNE := Lib.hid hne
        obtain ⟨r, hr⟩ : ∃ r, (dec y).1 = r := ⟨_, rfl⟩
        obtain ⟨wd, hwd⟩ : ∃ wd, (dec y).2 = wd := ⟨_, rfl⟩
        rw [hr, hwd] at he
        have HR := Lib.hid hr; have HWD := Lib.hid hwd; have HE := Lib.hid he; have HSL := Lib.hid hsl
        clear hx hxv hdr hne hy hr hwd he hsl
        have d4 : decide ((j : Int) < 4) = true := decide_eq_true (by omega)
        have dn : decide ((j : Int) ≤ n) = true := decide_eq_true (by omega)
        by_cases hw : wd ≤ j
        · have dw : decide ((j : Int) < wd) = false := decide_eq_false (by omega)
          go_wp2_with (go_at_call 51
                       rw [HSL.out]
                       refine (decRune_ok y HNE.out _ (tabs_below HB.out HT.out)).mono ?_
                       rintro x wz ⟨rfl, hbz⟩
                       rw [HR.out, HWD.out]
                       have HBZ := Lib.hid (HB.out.trans (hbz.mono HB.out.size)); clear hbz)
          go_roundw
          case rel =>
            refine ⟨j + 1, by omega, by omega, by go_num, fun k h1 h2 => ?_, HBZ.out⟩
            rcases Nat.lt_or_ge k j with c | c
            · exact HALL.out k h1 c
            · obtain rfl : k = j := by omega
              rw [HE.out, decide_eq_true hw]; rfl
          case measure => simp [RowKit.intOf]; omega
        · have dw : decide ((j : Int) < wd) = true := decide_eq_true (by omega)
          have d1 : ((wd : Int) == 1) = false := by rw [beq_eq_false_iff_ne]; omega
          have hF : Folds.isEdge a b = false := by
            have h0 : edgeAt a b j = false := by rw [HE.out, decide_eq_false hw, decide_eq_false (show ¬ wd = 1 by omega)]; simp
            rw [isEdge_eq]
            obtain rfl | rfl | rfl : j = 1 ∨ j = 2 ∨ j = 3 := by omega
            · rw [h0]; rfl
            · rw [h0]; simp
            · rw [h0]; simp
          have HF := Lib.hid hF; clear hF
          by_cases hr : r = 65533
          · subst hr
            go_wp2_with (go_at_call 51
                         rw [HSL.out]
                         refine (decRune_ok y HNE.out _ (tabs_below HB.out HT.out)).mono ?_
                         rintro x wz ⟨rfl, hbz⟩
                         rw [HR.out, HWD.out]
                         have HBZ := Lib.hid (HB.out.trans (hbz.mono HB.out.size)); clear hbz)
            go_ret
            exact ⟨by rw [HF.out]; rfl, HBZ.out⟩
          · have dr : decide ((r : Int) = 65533) = false := decide_eq_false (by omega)
            go_wp2_with (go_at_call 51
                         rw [HSL.out]
                         refine (decRune_ok y HNE.out _ (tabs_below HB.out HT.out)).mono ?_
                         rintro x wz ⟨rfl, hbz⟩
                         rw [HR.out, HWD.out]
                         have HBZ := Lib.hid (HB.out.trans (hbz.mono HB.out.size)); clear hbz)
            go_ret
            exact ⟨by rw [HF.out]; rfl, HBZ.out⟩
      · have dn : decide ((j : Int) ≤ n) = false := decide_eq_false (by omega)
        have d4 : decide ((j : Int) < 4) = true := decide_eq_true (by omega)
        have hE : Folds.isEdge a b = true := by
          have hbig : ∀ k, j ≤ k → edgeAt a b k = true := fun k hk => by
            unfold edgeAt
            rw [HN.out, decide_eq_true (show n < k by omega)]; rfl
          have hk : ∀ k, 1 ≤ k → edgeAt a b k = true := fun k h1 => by
            rcases Nat.lt_or_ge k j with c | c
            · exact HALL.out k h1 c
            · exact hbig k c
          rw [isEdge_eq, hk 1 (by omega), hk 2 (by omega), hk 3 (by omega)]; rfl
        go_wp2
        go_ret
        exact ⟨by rw [hE]; rfl, HB.out⟩
    · obtain rfl : j = 4 := by omega
      have hE : Folds.isEdge a b = true := by
        rw [isEdge_eq, HALL.out 1 (by omega) (by omega), HALL.out 2 (by omega) (by omega), HALL.out 3 (by omega) (by omega)]; rfl
      go_wp2
      go_ret
      exact ⟨by rw [hE]; rfl, HB.out⟩
end
section
open Go.Shelf Go.RowKit Go.Lib Go.Proofs.YtnfghboholehdaaGreatDoor.Am
/-- what live() is to do -/
def Lives (w : World) : Prop := Calls Tryz.prog 8 #[] w fun e w' => e = .returned (.bool true) ∧ Below w.heap.size w w'
def L (s : ByteArray) : List UInt8 := s.data.toList
theorem mk_L (s : ByteArray) : (⟨(L s).toArray⟩ : ByteArray) = s := by cases s; simp [L]
theorem L_app (a b : ByteArray) : L (a ++ b) = L a ++ L b := by simp [L]
theorem L_len (s : ByteArray) : (L s).length = s.size := by rw [← size_mk (L s) _ rfl, mk_L]
def fB (k : Nat) (s : ByteArray) : ByteArray := ⟨(wr k (L s)).toArray⟩
theorem L_fB (k : Nat) (s : ByteArray) : L (fB k s) = wr k (L s) := by simp [L, fB]
theorem ext_L {a b : ByteArray} (h : L a = L b) : a = b := by rw [← mk_L a, ← mk_L b, h]
theorem fB_app (k : Nat) (a b : ByteArray) (h : Folds.isEdge (L a) (L b) = true) : fB k (a ++ b) = fB k a ++ fB k b := by
  refine ext_L ?_
  rw [L_app, L_fB, L_fB, L_fB, L_app]
  exact Folds.wrt_app _ (L a).length (L a) (L b) (Nat.le_refl _) (Folds.edge_of h)
theorem fB_valid (k : Nat) (a b : ByteArray) (h : Lib.validD (L a) = true) : wr k (L (a ++ b)) = wr k (L a) ++ wr k (L b) := by
  rw [L_app]; exact Folds.wrt_validD _ h (L b)
theorem FoldB (W : World) (hO : ∀ w, Below W.heap.size W w → OpensP w) (hT : Lib.Utf8Tabs 0 1 W) (s : ByteArray) (h : s.size ≤ 200) (w : World) (hb : Below W.heap.size W w) : Calls Tryz.prog 20 #[.string s] w fun e w' => e = .returned (.string (fB 3 s)) ∧ Below W.heap.size W w' := by
  have := Fold_ok (L s) w (hO w hb) (tabs_below hb hT) (by rw [L_len]; omega)
  rw [mk_L] at this
  refine this.mono ?_
  rintro e w' ⟨rfl, h2⟩
  exact ⟨rfl, hb.trans (h2.mono hb.size)⟩
theorem GreatB (W : World) (hO : ∀ w, Below W.heap.size W w → OpensP w) (hT : Lib.Utf8Tabs 0 1 W) (s : ByteArray) (h : s.size ≤ 200) (w : World) (hb : Below W.heap.size W w) : Calls Tryz.prog 19 #[.string s] w fun e w' => e = .returned (.string (fB 1 s)) ∧ Below W.heap.size W w' := by
  have := Great_ok (L s) w (hO w hb) (tabs_below hb hT) (by rw [L_len]; omega)
  rw [mk_L] at this
  refine this.mono ?_
  rintro e w' ⟨rfl, h2⟩
  exact ⟨rfl, hb.trans (h2.mono hb.size)⟩
theorem EqualB (W : World) (hO : ∀ w, Below W.heap.size W w → OpensP w) (hT : Lib.Utf8Tabs 0 1 W) (x y : ByteArray) (hx : x.size ≤ 200) (hy : y.size ≤ 200) (w : World) (hb : Below W.heap.size W w) : Calls Tryz.prog 14 #[.string x, .string y] w fun e w' => e = .returned (.bool (decide (wr 3 (L x) = wr 3 (L y)))) ∧ Below W.heap.size W w' := by
  have := Equal_ok (L x) (L y) w (fun w' h => hO w' (hb.trans (h.mono hb.size))) (tabs_below hb hT) (by rw [L_len]; omega) (by rw [L_len]; omega)
  rw [mk_L, mk_L] at this
  refine this.mono ?_
  rintro e w' ⟨rfl, h2⟩
  exact ⟨rfl, hb.trans (h2.mono hb.size)⟩
theorem IsB (W : World) (hT : Lib.Utf8Tabs 0 1 W) (x y : ByteArray) (hx : x.size ≤ 200) (hy : y.size ≤ 200) (w : World) (hb : Below W.heap.size W w) : Calls Tryz.prog 25 #[.string (x ++ y), .int .i64 x.size] w fun e w' => e = .returned (.bool (Folds.isEdge (L x) (L y))) ∧ Below W.heap.size W w' := by
  have := Is_ok (L x) (L y) w (tabs_below hb hT) (by rw [L_len]; omega) (by rw [L_len]; omega)
  rw [← L_app, mk_L, L_len] at this
  refine this.mono ?_
  rintro e w' ⟨rfl, h2⟩
  exact ⟨rfl, hb.trans (h2.mono hb.size)⟩
theorem CountB (W : World) (x : ByteArray) (hx : x.size ≤ 200) (w : World) (hb : Below W.heap.size W w) : Calls Tryz.prog 26 #[.string x] w fun e w' => (∃ c : Nat, e = .returned (.int .i64 c)) ∧ Below W.heap.size W w' := by
  have := Count_ok (L x) w (by rw [L_len]; omega)
  rw [mk_L] at this
  refine this.mono ?_
  rintro e w' ⟨rfl, h2⟩
  exact ⟨⟨_, rfl⟩, hb.trans (h2.mono hb.size)⟩
theorem ValidB (W : World) (hT : Lib.Utf8Tabs 0 1 W) (x : ByteArray) (hx : x.size ≤ 200) (w : World) (hb : Below W.heap.size W w) : Calls Tryz.prog 27 #[.string x] w fun e w' => e = .returned (.bool (Lib.validD (L x))) ∧ Below W.heap.size W w' := by
  have := Valid_ok (L x) w (by rw [L_len]; omega) (tabs_below hb hT)
  rw [mk_L] at this
  refine this.mono ?_
  rintro e w' ⟨rfl, h2⟩
  exact ⟨rfl, hb.trans (h2.mono hb.size)⟩
end
section
open Go.Shelf Go.RowKit Go.Lib Go.Proofs.YtnfghboholehdaaGreatDoor.Am
def LawPost (W : World) (e : Ending) (w' : World) : Prop := e = .returned (.bool true) ∧ Below W.heap.size W w'
theorem eq_app (s t u : ByteArray) (hs : Lib.validD (L s) = true) (ht : Lib.validD (L t) = true) (h : wr 3 (L s) = wr 3 (L t)) : wr 3 (L (s ++ u)) = wr 3 (L (t ++ u)) := by
  rw [fB_valid 3 s u hs, fB_valid 3 t u ht, h]
theorem eq_pre (s t u : ByteArray) (hu : Lib.validD (L u) = true) (h : wr 3 (L s) = wr 3 (L t)) : wr 3 (L (u ++ s)) = wr 3 (L (u ++ t)) := by
  rw [fB_valid 3 u s hu, fB_valid 3 u t hu, h]
set_option maxHeartbeats 8000000 in
set_option maxRecDepth 100000 in
theorem Pieces_long (s t u : ByteArray) (hs : s.size ≤ 140737488355328) (ht : t.size ≤ 140737488355328) (hu : u.size ≤ 140737488355328) (h : 80 < s.size + t.size + u.size) (W : World) (hlive : Lives W) :
    Calls Tryz.prog 7 #[.string s, .string t, .string u] W (LawPost W) := by
  have HL := Lib.hid hlive
  have d : decide ((80 : Int) < wrap64 (wrap64 ((s.size : Int) + t.size) + u.size)) = true := decide_eq_true (by unfold wrap64; omega)
  clear hs ht hu h hlive
  go_enter Tryz.func7, Tryz.ntmps7
  go_wp2_with (go_at_call 8; refine HL.out.mono ?_; rintro e w1 ⟨rfl, hb⟩; have HB := Lib.hid hb; clear hb)
  all_goals go_ret
  all_goals exact ⟨rfl, HB.out⟩
theorem fB_size (k : Nat) (hk : k ≠ 0) (s : ByteArray) : (fB k s).size ≤ 12 * s.size := by
  unfold fB
  rw [size_mk _ _ rfl, ← catP_wr k hk (fun _ => false)]
  have := (pcs_len (encW k fun _ => false) (encW_len k _) (L s) (L s).length 0 0).1
  rw [L_len] at this
  unfold pcsOf
  rw [L_len]; exact this
theorem size_app (a b : ByteArray) : (a ++ b).size = a.size + b.size := ByteArray.size_append
/-- small enough -/
structure Fit (s t u : ByteArray) : Prop where
  d : decide ((80 : Int) < wrap64 (wrap64 ((s.size : Int) + t.size) + u.size)) = false
  d2 : wrap64 ((s.size : Int) + t.size + u.size) ≤ 80
  h : s.size ≤ 200 ∧ t.size ≤ 200 ∧ u.size ≤ 200 ∧ (s ++ t).size ≤ 200 ∧ (s ++ u).size ≤ 200 ∧ (t ++ u).size ≤ 200 ∧ (u ++ s).size ≤ 200 ∧ (u ++ t).size ≤ 200
  n1 : ¬ 9223372036854775807 < s.size + t.size
  n2 : ¬ 9223372036854775807 < s.size + u.size
  n3 : ¬ 9223372036854775807 < t.size + u.size
  n4 : ¬ 9223372036854775807 < u.size + s.size
  n5 : ¬ 9223372036854775807 < u.size + t.size
  n6 : ¬ 9223372036854775807 < (fB 3 s).size + (fB 3 t).size
  n7 : ¬ 9223372036854775807 < (fB 1 s).size + (fB 1 t).size
theorem fit (s t u : ByteArray) (h : s.size + t.size + u.size ≤ 80) : Fit s t u := {
  d := decide_eq_false (by unfold wrap64; omega)
  d2 := by unfold wrap64; omega
  h := by rw [size_app, size_app, size_app, size_app, size_app]; omega
  n1 := by omega
  n2 := by omega
  n3 := by omega
  n4 := by omega
  n5 := by omega
  n6 := by have := fB_size 3 (by decide) s; have := fB_size 3 (by decide) t; omega
  n7 := by have := fB_size 1 (by decide) s; have := fB_size 1 (by decide) t; omega
  }
end
section
open Go.Shelf Go.RowKit Go.Lib Go.Proofs.YtnfghboholehdaaGreatDoor.Am
set_option maxHeartbeats 4000000 in
set_option maxRecDepth 100000 in
theorem pieces0 (s t u : ByteArray) (hf : Fit s t u) (a1 : Folds.isEdge (L s) (L t) = false) (v1 : Lib.validD (L s) = false) (W : World) (hO : ∀ w, Below W.heap.size W w → OpensP w) (hT : Lib.Utf8Tabs 0 1 W) (hlive : ∀ w, Below W.heap.size W w → Lives w) :
    Calls Tryz.prog 7 #[.string s, .string t, .string u] W (LawPost W) := by
  have HL := Lib.hid hlive; have HO := Lib.hid hO; have HT := Lib.hid hT
  obtain ⟨d, d2, h, n1, n2, n3, n4, n5, n6, n7⟩ := hf
  have H := Lib.hid h
  have HB := Lib.hid (Below.refl W.heap.size W)
  clear h hO hT hlive
  go_enter Tryz.func7, Tryz.ntmps7
  go_wp2_with (first
    | (go_at_call 25; refine (IsB W HT.out s t H.out.1 H.out.2.1 _ HB.out).mono ?_; rintro e wz ⟨rfl, hb⟩; rw [a1]; have HB := Lib.hid hb; clear hb d d2)
    | (go_at_call 26; refine (CountB W _ (by first | exact H.out.1 | exact H.out.2.1 | exact H.out.2.2.1 | exact H.out.2.2.2.1 | exact H.out.2.2.2.2.1 | exact H.out.2.2.2.2.2.1 | exact H.out.2.2.2.2.2.2.1 | exact H.out.2.2.2.2.2.2.2) _ HB.out).mono ?_; rintro e wz ⟨⟨c, rfl⟩, hb⟩; have HB := Lib.hid hb; clear hb)
    | (go_at_call 20; refine (FoldB W HO.out HT.out _ (by first | exact H.out.1 | exact H.out.2.1 | exact H.out.2.2.1 | exact H.out.2.2.2.1 | exact H.out.2.2.2.2.1 | exact H.out.2.2.2.2.2.1 | exact H.out.2.2.2.2.2.2.1 | exact H.out.2.2.2.2.2.2.2) _ HB.out).mono ?_; rintro e wz ⟨rfl, hb⟩
       have HB := Lib.hid hb; clear hb)
    | (go_at_call 19; refine (GreatB W HO.out HT.out _ (by first | exact H.out.1 | exact H.out.2.1 | exact H.out.2.2.1 | exact H.out.2.2.2.1 | exact H.out.2.2.2.2.1 | exact H.out.2.2.2.2.2.1 | exact H.out.2.2.2.2.2.2.1 | exact H.out.2.2.2.2.2.2.2) _ HB.out).mono ?_; rintro e wz ⟨rfl, hb⟩
       have HB := Lib.hid hb; clear hb)
    | (go_at_call 27; refine (ValidB W HT.out _ (by first | exact H.out.1 | exact H.out.2.1 | exact H.out.2.2.1 | exact H.out.2.2.2.1 | exact H.out.2.2.2.2.1 | exact H.out.2.2.2.2.2.1 | exact H.out.2.2.2.2.2.2.1 | exact H.out.2.2.2.2.2.2.2) _ HB.out).mono ?_; rintro e wz ⟨rfl, hb⟩; first | rw [v1]
       have HB := Lib.hid hb; clear hb)
    | (go_at_call 14; refine (EqualB W HO.out HT.out _ _ (by first | exact H.out.1 | exact H.out.2.1 | exact H.out.2.2.1 | exact H.out.2.2.2.1 | exact H.out.2.2.2.2.1 | exact H.out.2.2.2.2.2.1 | exact H.out.2.2.2.2.2.2.1 | exact H.out.2.2.2.2.2.2.2) (by first | exact H.out.1 | exact H.out.2.1 | exact H.out.2.2.1 | exact H.out.2.2.2.1 | exact H.out.2.2.2.2.1 | exact H.out.2.2.2.2.2.1 | exact H.out.2.2.2.2.2.2.1 | exact H.out.2.2.2.2.2.2.2) _ HB.out).mono ?_; rintro e wz ⟨rfl, hb⟩; first  | rw [show decide (wr 3 (L s) = wr 3 (L s)) = true from decide_eq_true rfl]
       have HB := Lib.hid hb; clear hb)
    | (go_at_call 8; refine (HL.out _ HB.out).mono ?_; rintro e wz ⟨rfl, hb⟩; have HB := Lib.hid (HB.out.trans (hb.mono HB.out.size)); clear hb))
  all_goals go_ret
  all_goals exact ⟨rfl, HB.out⟩
set_option maxHeartbeats 4000000 in
set_option maxRecDepth 100000 in
theorem pieces1 (s t u : ByteArray) (hf : Fit s t u) (a1 : Folds.isEdge (L s) (L t) = false) (v1 : Lib.validD (L s) = true) (v2 : Lib.validD (L t) = false) (W : World) (hO : ∀ w, Below W.heap.size W w → OpensP w) (hT : Lib.Utf8Tabs 0 1 W) (hlive : ∀ w, Below W.heap.size W w → Lives w) :
    Calls Tryz.prog 7 #[.string s, .string t, .string u] W (LawPost W) := by
  have HL := Lib.hid hlive; have HO := Lib.hid hO; have HT := Lib.hid hT
  obtain ⟨d, d2, h, n1, n2, n3, n4, n5, n6, n7⟩ := hf
  have H := Lib.hid h
  have HB := Lib.hid (Below.refl W.heap.size W)
  clear h hO hT hlive
  go_enter Tryz.func7, Tryz.ntmps7
  go_wp2_with (first
    | (go_at_call 25; refine (IsB W HT.out s t H.out.1 H.out.2.1 _ HB.out).mono ?_; rintro e wz ⟨rfl, hb⟩; rw [a1]; have HB := Lib.hid hb; clear hb d d2)
    | (go_at_call 26; refine (CountB W _ (by first | exact H.out.1 | exact H.out.2.1 | exact H.out.2.2.1 | exact H.out.2.2.2.1 | exact H.out.2.2.2.2.1 | exact H.out.2.2.2.2.2.1 | exact H.out.2.2.2.2.2.2.1 | exact H.out.2.2.2.2.2.2.2) _ HB.out).mono ?_; rintro e wz ⟨⟨c, rfl⟩, hb⟩; have HB := Lib.hid hb; clear hb)
    | (go_at_call 20; refine (FoldB W HO.out HT.out _ (by first | exact H.out.1 | exact H.out.2.1 | exact H.out.2.2.1 | exact H.out.2.2.2.1 | exact H.out.2.2.2.2.1 | exact H.out.2.2.2.2.2.1 | exact H.out.2.2.2.2.2.2.1 | exact H.out.2.2.2.2.2.2.2) _ HB.out).mono ?_; rintro e wz ⟨rfl, hb⟩
       have HB := Lib.hid hb; clear hb)
    | (go_at_call 19; refine (GreatB W HO.out HT.out _ (by first | exact H.out.1 | exact H.out.2.1 | exact H.out.2.2.1 | exact H.out.2.2.2.1 | exact H.out.2.2.2.2.1 | exact H.out.2.2.2.2.2.1 | exact H.out.2.2.2.2.2.2.1 | exact H.out.2.2.2.2.2.2.2) _ HB.out).mono ?_; rintro e wz ⟨rfl, hb⟩
       have HB := Lib.hid hb; clear hb)
    | (go_at_call 27; refine (ValidB W HT.out _ (by first | exact H.out.1 | exact H.out.2.1 | exact H.out.2.2.1 | exact H.out.2.2.2.1 | exact H.out.2.2.2.2.1 | exact H.out.2.2.2.2.2.1 | exact H.out.2.2.2.2.2.2.1 | exact H.out.2.2.2.2.2.2.2) _ HB.out).mono ?_; rintro e wz ⟨rfl, hb⟩; first | rw [v1] | rw [v2]
       have HB := Lib.hid hb; clear hb)
    | (go_at_call 14; refine (EqualB W HO.out HT.out _ _ (by first | exact H.out.1 | exact H.out.2.1 | exact H.out.2.2.1 | exact H.out.2.2.2.1 | exact H.out.2.2.2.2.1 | exact H.out.2.2.2.2.2.1 | exact H.out.2.2.2.2.2.2.1 | exact H.out.2.2.2.2.2.2.2) (by first | exact H.out.1 | exact H.out.2.1 | exact H.out.2.2.1 | exact H.out.2.2.2.1 | exact H.out.2.2.2.2.1 | exact H.out.2.2.2.2.2.1 | exact H.out.2.2.2.2.2.2.1 | exact H.out.2.2.2.2.2.2.2) _ HB.out).mono ?_; rintro e wz ⟨rfl, hb⟩; first  | rw [show decide (wr 3 (L s) = wr 3 (L s)) = true from decide_eq_true rfl]
       have HB := Lib.hid hb; clear hb)
    | (go_at_call 8; refine (HL.out _ HB.out).mono ?_; rintro e wz ⟨rfl, hb⟩; have HB := Lib.hid (HB.out.trans (hb.mono HB.out.size)); clear hb))
  all_goals go_ret
  all_goals exact ⟨rfl, HB.out⟩
set_option maxHeartbeats 4000000 in
set_option maxRecDepth 100000 in
theorem pieces2 (s t u : ByteArray) (hf : Fit s t u) (a1 : Folds.isEdge (L s) (L t) = false) (v1 : Lib.validD (L s) = true) (v2 : Lib.validD (L t) = true) (v3 : Lib.validD (L u) = false) (W : World) (hO : ∀ w, Below W.heap.size W w → OpensP w) (hT : Lib.Utf8Tabs 0 1 W) (hlive : ∀ w, Below W.heap.size W w → Lives w) :
    Calls Tryz.prog 7 #[.string s, .string t, .string u] W (LawPost W) := by
  have HL := Lib.hid hlive; have HO := Lib.hid hO; have HT := Lib.hid hT
  obtain ⟨d, d2, h, n1, n2, n3, n4, n5, n6, n7⟩ := hf
  have H := Lib.hid h
  have HB := Lib.hid (Below.refl W.heap.size W)
  clear h hO hT hlive
  go_enter Tryz.func7, Tryz.ntmps7
  go_wp2_with (first
    | (go_at_call 25; refine (IsB W HT.out s t H.out.1 H.out.2.1 _ HB.out).mono ?_; rintro e wz ⟨rfl, hb⟩; rw [a1]; have HB := Lib.hid hb; clear hb d d2)
    | (go_at_call 26; refine (CountB W _ (by first | exact H.out.1 | exact H.out.2.1 | exact H.out.2.2.1 | exact H.out.2.2.2.1 | exact H.out.2.2.2.2.1 | exact H.out.2.2.2.2.2.1 | exact H.out.2.2.2.2.2.2.1 | exact H.out.2.2.2.2.2.2.2) _ HB.out).mono ?_; rintro e wz ⟨⟨c, rfl⟩, hb⟩; have HB := Lib.hid hb; clear hb)
    | (go_at_call 20; refine (FoldB W HO.out HT.out _ (by first | exact H.out.1 | exact H.out.2.1 | exact H.out.2.2.1 | exact H.out.2.2.2.1 | exact H.out.2.2.2.2.1 | exact H.out.2.2.2.2.2.1 | exact H.out.2.2.2.2.2.2.1 | exact H.out.2.2.2.2.2.2.2) _ HB.out).mono ?_; rintro e wz ⟨rfl, hb⟩
       have HB := Lib.hid hb; clear hb)
    | (go_at_call 19; refine (GreatB W HO.out HT.out _ (by first | exact H.out.1 | exact H.out.2.1 | exact H.out.2.2.1 | exact H.out.2.2.2.1 | exact H.out.2.2.2.2.1 | exact H.out.2.2.2.2.2.1 | exact H.out.2.2.2.2.2.2.1 | exact H.out.2.2.2.2.2.2.2) _ HB.out).mono ?_; rintro e wz ⟨rfl, hb⟩
       have HB := Lib.hid hb; clear hb)
    | (go_at_call 27; refine (ValidB W HT.out _ (by first | exact H.out.1 | exact H.out.2.1 | exact H.out.2.2.1 | exact H.out.2.2.2.1 | exact H.out.2.2.2.2.1 | exact H.out.2.2.2.2.2.1 | exact H.out.2.2.2.2.2.2.1 | exact H.out.2.2.2.2.2.2.2) _ HB.out).mono ?_; rintro e wz ⟨rfl, hb⟩; first | rw [v1] | rw [v2] | rw [v3]
       have HB := Lib.hid hb; clear hb)
    | (go_at_call 14; refine (EqualB W HO.out HT.out _ _ (by first | exact H.out.1 | exact H.out.2.1 | exact H.out.2.2.1 | exact H.out.2.2.2.1 | exact H.out.2.2.2.2.1 | exact H.out.2.2.2.2.2.1 | exact H.out.2.2.2.2.2.2.1 | exact H.out.2.2.2.2.2.2.2) (by first | exact H.out.1 | exact H.out.2.1 | exact H.out.2.2.1 | exact H.out.2.2.2.1 | exact H.out.2.2.2.2.1 | exact H.out.2.2.2.2.2.1 | exact H.out.2.2.2.2.2.2.1 | exact H.out.2.2.2.2.2.2.2) _ HB.out).mono ?_; rintro e wz ⟨rfl, hb⟩; first  | rw [show decide (wr 3 (L s) = wr 3 (L s)) = true from decide_eq_true rfl]
       have HB := Lib.hid hb; clear hb)
    | (go_at_call 8; refine (HL.out _ HB.out).mono ?_; rintro e wz ⟨rfl, hb⟩; have HB := Lib.hid (HB.out.trans (hb.mono HB.out.size)); clear hb))
  all_goals go_ret
  all_goals exact ⟨rfl, HB.out⟩
set_option maxHeartbeats 4000000 in
set_option maxRecDepth 100000 in
theorem pieces3 (s t u : ByteArray) (hf : Fit s t u) (a1 : Folds.isEdge (L s) (L t) = false) (v1 : Lib.validD (L s) = true) (v2 : Lib.validD (L t) = true) (v3 : Lib.validD (L u) = true) (v4 : decide (wr 3 (L s) = wr 3 (L t)) = false) (W : World) (hO : ∀ w, Below W.heap.size W w → OpensP w) (hT : Lib.Utf8Tabs 0 1 W) (hlive : ∀ w, Below W.heap.size W w → Lives w) :
    Calls Tryz.prog 7 #[.string s, .string t, .string u] W (LawPost W) := by
  have HL := Lib.hid hlive; have HO := Lib.hid hO; have HT := Lib.hid hT
  obtain ⟨d, d2, h, n1, n2, n3, n4, n5, n6, n7⟩ := hf
  have H := Lib.hid h
  have HB := Lib.hid (Below.refl W.heap.size W)
  clear h hO hT hlive
  go_enter Tryz.func7, Tryz.ntmps7
  go_wp2_with (first
    | (go_at_call 25; refine (IsB W HT.out s t H.out.1 H.out.2.1 _ HB.out).mono ?_; rintro e wz ⟨rfl, hb⟩; rw [a1]; have HB := Lib.hid hb; clear hb d d2)
    | (go_at_call 26; refine (CountB W _ (by first | exact H.out.1 | exact H.out.2.1 | exact H.out.2.2.1 | exact H.out.2.2.2.1 | exact H.out.2.2.2.2.1 | exact H.out.2.2.2.2.2.1 | exact H.out.2.2.2.2.2.2.1 | exact H.out.2.2.2.2.2.2.2) _ HB.out).mono ?_; rintro e wz ⟨⟨c, rfl⟩, hb⟩; have HB := Lib.hid hb; clear hb)
    | (go_at_call 20; refine (FoldB W HO.out HT.out _ (by first | exact H.out.1 | exact H.out.2.1 | exact H.out.2.2.1 | exact H.out.2.2.2.1 | exact H.out.2.2.2.2.1 | exact H.out.2.2.2.2.2.1 | exact H.out.2.2.2.2.2.2.1 | exact H.out.2.2.2.2.2.2.2) _ HB.out).mono ?_; rintro e wz ⟨rfl, hb⟩
       have HB := Lib.hid hb; clear hb)
    | (go_at_call 19; refine (GreatB W HO.out HT.out _ (by first | exact H.out.1 | exact H.out.2.1 | exact H.out.2.2.1 | exact H.out.2.2.2.1 | exact H.out.2.2.2.2.1 | exact H.out.2.2.2.2.2.1 | exact H.out.2.2.2.2.2.2.1 | exact H.out.2.2.2.2.2.2.2) _ HB.out).mono ?_; rintro e wz ⟨rfl, hb⟩
       have HB := Lib.hid hb; clear hb)
    | (go_at_call 27; refine (ValidB W HT.out _ (by first | exact H.out.1 | exact H.out.2.1 | exact H.out.2.2.1 | exact H.out.2.2.2.1 | exact H.out.2.2.2.2.1 | exact H.out.2.2.2.2.2.1 | exact H.out.2.2.2.2.2.2.1 | exact H.out.2.2.2.2.2.2.2) _ HB.out).mono ?_; rintro e wz ⟨rfl, hb⟩; first | rw [v1] | rw [v2] | rw [v3]
       have HB := Lib.hid hb; clear hb)
    | (go_at_call 14; refine (EqualB W HO.out HT.out _ _ (by first | exact H.out.1 | exact H.out.2.1 | exact H.out.2.2.1 | exact H.out.2.2.2.1 | exact H.out.2.2.2.2.1 | exact H.out.2.2.2.2.2.1 | exact H.out.2.2.2.2.2.2.1 | exact H.out.2.2.2.2.2.2.2) (by first | exact H.out.1 | exact H.out.2.1 | exact H.out.2.2.1 | exact H.out.2.2.2.1 | exact H.out.2.2.2.2.1 | exact H.out.2.2.2.2.2.1 | exact H.out.2.2.2.2.2.2.1 | exact H.out.2.2.2.2.2.2.2) _ HB.out).mono ?_; rintro e wz ⟨rfl, hb⟩; first | rw [v4] | rw [show decide (wr 3 (L s) = wr 3 (L s)) = true from decide_eq_true rfl]
       have HB := Lib.hid hb; clear hb)
    | (go_at_call 8; refine (HL.out _ HB.out).mono ?_; rintro e wz ⟨rfl, hb⟩; have HB := Lib.hid (HB.out.trans (hb.mono HB.out.size)); clear hb))
  all_goals go_ret
  all_goals exact ⟨rfl, HB.out⟩
set_option maxHeartbeats 4000000 in
set_option maxRecDepth 100000 in
theorem pieces4 (s t u : ByteArray) (hf : Fit s t u) (a1 : Folds.isEdge (L s) (L t) = false) (v1 : Lib.validD (L s) = true) (v2 : Lib.validD (L t) = true) (v3 : Lib.validD (L u) = true) (v4 : decide (wr 3 (L s) = wr 3 (L t)) = true) (v5 : decide (wr 3 (L (s ++ u)) = wr 3 (L (t ++ u))) = true) (v6 : decide (wr 3 (L (u ++ s)) = wr 3 (L (u ++ t))) = true) (v7 : decide (wr 3 (L t) = wr 3 (L s)) = true) (W : World) (hO : ∀ w, Below W.heap.size W w → OpensP w) (hT : Lib.Utf8Tabs 0 1 W) (hlive : ∀ w, Below W.heap.size W w → Lives w) :
    Calls Tryz.prog 7 #[.string s, .string t, .string u] W (LawPost W) := by
  have HL := Lib.hid hlive; have HO := Lib.hid hO; have HT := Lib.hid hT
  obtain ⟨d, d2, h, n1, n2, n3, n4, n5, n6, n7⟩ := hf
  have H := Lib.hid h
  have HB := Lib.hid (Below.refl W.heap.size W)
  clear h hO hT hlive
  go_enter Tryz.func7, Tryz.ntmps7
  go_wp2_with (first
    | (go_at_call 25; refine (IsB W HT.out s t H.out.1 H.out.2.1 _ HB.out).mono ?_; rintro e wz ⟨rfl, hb⟩; rw [a1]; have HB := Lib.hid hb; clear hb d d2)
    | (go_at_call 26; refine (CountB W _ (by first | exact H.out.1 | exact H.out.2.1 | exact H.out.2.2.1 | exact H.out.2.2.2.1 | exact H.out.2.2.2.2.1 | exact H.out.2.2.2.2.2.1 | exact H.out.2.2.2.2.2.2.1 | exact H.out.2.2.2.2.2.2.2) _ HB.out).mono ?_; rintro e wz ⟨⟨c, rfl⟩, hb⟩; have HB := Lib.hid hb; clear hb)
    | (go_at_call 20; refine (FoldB W HO.out HT.out _ (by first | exact H.out.1 | exact H.out.2.1 | exact H.out.2.2.1 | exact H.out.2.2.2.1 | exact H.out.2.2.2.2.1 | exact H.out.2.2.2.2.2.1 | exact H.out.2.2.2.2.2.2.1 | exact H.out.2.2.2.2.2.2.2) _ HB.out).mono ?_; rintro e wz ⟨rfl, hb⟩
       have HB := Lib.hid hb; clear hb)
    | (go_at_call 19; refine (GreatB W HO.out HT.out _ (by first | exact H.out.1 | exact H.out.2.1 | exact H.out.2.2.1 | exact H.out.2.2.2.1 | exact H.out.2.2.2.2.1 | exact H.out.2.2.2.2.2.1 | exact H.out.2.2.2.2.2.2.1 | exact H.out.2.2.2.2.2.2.2) _ HB.out).mono ?_; rintro e wz ⟨rfl, hb⟩
       have HB := Lib.hid hb; clear hb)
    | (go_at_call 27; refine (ValidB W HT.out _ (by first | exact H.out.1 | exact H.out.2.1 | exact H.out.2.2.1 | exact H.out.2.2.2.1 | exact H.out.2.2.2.2.1 | exact H.out.2.2.2.2.2.1 | exact H.out.2.2.2.2.2.2.1 | exact H.out.2.2.2.2.2.2.2) _ HB.out).mono ?_; rintro e wz ⟨rfl, hb⟩; first | rw [v1] | rw [v2] | rw [v3]
       have HB := Lib.hid hb; clear hb)
    | (go_at_call 14; refine (EqualB W HO.out HT.out _ _ (by first | exact H.out.1 | exact H.out.2.1 | exact H.out.2.2.1 | exact H.out.2.2.2.1 | exact H.out.2.2.2.2.1 | exact H.out.2.2.2.2.2.1 | exact H.out.2.2.2.2.2.2.1 | exact H.out.2.2.2.2.2.2.2) (by first | exact H.out.1 | exact H.out.2.1 | exact H.out.2.2.1 | exact H.out.2.2.2.1 | exact H.out.2.2.2.2.1 | exact H.out.2.2.2.2.2.1 | exact H.out.2.2.2.2.2.2.1 | exact H.out.2.2.2.2.2.2.2) _ HB.out).mono ?_; rintro e wz ⟨rfl, hb⟩; first | rw [v4] | rw [v5] | rw [v6] | rw [v7] | rw [show decide (wr 3 (L s) = wr 3 (L s)) = true from decide_eq_true rfl]
       have HB := Lib.hid hb; clear hb)
    | (go_at_call 8; refine (HL.out _ HB.out).mono ?_; rintro e wz ⟨rfl, hb⟩; have HB := Lib.hid (HB.out.trans (hb.mono HB.out.size)); clear hb))
  all_goals go_ret
  all_goals exact ⟨rfl, HB.out⟩
end
section
open Go.Shelf Go.RowKit Go.Lib Go.Proofs.YtnfghboholehdaaGreatDoor.Am
set_option maxHeartbeats 4000000 in
set_option maxRecDepth 100000 in
theorem pieces5 (s t u : ByteArray) (hf : Fit s t u) (a1 : Folds.isEdge (L s) (L t) = true) (a2 : fB 3 (s ++ t) = fB 3 s ++ fB 3 t) (a3 : fB 1 (s ++ t) = fB 1 s ++ fB 1 t) (v1 : Lib.validD (L s) = false) (W : World) (hO : ∀ w, Below W.heap.size W w → OpensP w) (hT : Lib.Utf8Tabs 0 1 W) (hlive : ∀ w, Below W.heap.size W w → Lives w) :
    Calls Tryz.prog 7 #[.string s, .string t, .string u] W (LawPost W) := by
  have HL := Lib.hid hlive; have HO := Lib.hid hO; have HT := Lib.hid hT
  obtain ⟨d, d2, h, n1, n2, n3, n4, n5, n6, n7⟩ := hf
  have H := Lib.hid h
  have HB := Lib.hid (Below.refl W.heap.size W)
  clear h hO hT hlive
  go_enter Tryz.func7, Tryz.ntmps7
  go_wp2_with fail
  refine (IsB W HT.out s t H.out.1 H.out.2.1 _ HB.out).mono ?_
  rintro e wz ⟨rfl, hb⟩
  rw [a1]
  have HB := Lib.hid hb; clear hb d d2
  dsimp only
  go_wp2_with fail
  refine (CountB W _ H.out.2.2.2.1 _ HB.out).mono ?_
  rintro e wz ⟨⟨c1, rfl⟩, hb⟩
  have HB := Lib.hid hb; clear hb
  dsimp only
  go_wp2_with fail
  refine (CountB W _ H.out.1 _ HB.out).mono ?_
  rintro e wz ⟨⟨c2, rfl⟩, hb⟩
  have HB := Lib.hid hb; clear hb
  dsimp only
  go_wp2_with fail
  refine (CountB W _ H.out.2.1 _ HB.out).mono ?_
  rintro e wz ⟨⟨c3, rfl⟩, hb⟩
  have HB := Lib.hid hb; clear hb
  dsimp only
  rcases Bool.eq_false_or_eq_true ((c1 : Int) == wrap64 ((c2 : Int) + c3)) with hq | hq
  all_goals
    go_wp2_with (first
      | (go_at_call 20; refine (FoldB W HO.out HT.out _ (by first | exact H.out.1 | exact H.out.2.1 | exact H.out.2.2.1 | exact H.out.2.2.2.1 | exact H.out.2.2.2.2.1 | exact H.out.2.2.2.2.2.1 | exact H.out.2.2.2.2.2.2.1 | exact H.out.2.2.2.2.2.2.2) _ HB.out).mono ?_; rintro e wz ⟨rfl, hb⟩; try rw [a2]
         have HB := Lib.hid hb; clear hb)
      | (go_at_call 19; refine (GreatB W HO.out HT.out _ (by first | exact H.out.1 | exact H.out.2.1 | exact H.out.2.2.1 | exact H.out.2.2.2.1 | exact H.out.2.2.2.2.1 | exact H.out.2.2.2.2.2.1 | exact H.out.2.2.2.2.2.2.1 | exact H.out.2.2.2.2.2.2.2) _ HB.out).mono ?_; rintro e wz ⟨rfl, hb⟩; try rw [a3]
         have HB := Lib.hid hb; clear hb)
      | (go_at_call 27; refine (ValidB W HT.out _ (by first | exact H.out.1 | exact H.out.2.1 | exact H.out.2.2.1 | exact H.out.2.2.2.1 | exact H.out.2.2.2.2.1 | exact H.out.2.2.2.2.2.1 | exact H.out.2.2.2.2.2.2.1 | exact H.out.2.2.2.2.2.2.2) _ HB.out).mono ?_; rintro e wz ⟨rfl, hb⟩; first | rw [v1]
         have HB := Lib.hid hb; clear hb)
      | (go_at_call 14; refine (EqualB W HO.out HT.out _ _ (by first | exact H.out.1 | exact H.out.2.1 | exact H.out.2.2.1 | exact H.out.2.2.2.1 | exact H.out.2.2.2.2.1 | exact H.out.2.2.2.2.2.1 | exact H.out.2.2.2.2.2.2.1 | exact H.out.2.2.2.2.2.2.2) (by first | exact H.out.1 | exact H.out.2.1 | exact H.out.2.2.1 | exact H.out.2.2.2.1 | exact H.out.2.2.2.2.1 | exact H.out.2.2.2.2.2.1 | exact H.out.2.2.2.2.2.2.1 | exact H.out.2.2.2.2.2.2.2) _ HB.out).mono ?_; rintro e wz ⟨rfl, hb⟩; first  | rw [show decide (wr 3 (L s) = wr 3 (L s)) = true from decide_eq_true rfl]
         have HB := Lib.hid hb; clear hb)
      | (go_at_call 8; refine (HL.out _ HB.out).mono ?_; rintro e wz ⟨rfl, hb⟩; have HB := Lib.hid (HB.out.trans (hb.mono HB.out.size)); clear hb))
  all_goals go_ret
  all_goals exact ⟨rfl, HB.out⟩
set_option maxHeartbeats 4000000 in
set_option maxRecDepth 100000 in
theorem pieces6 (s t u : ByteArray) (hf : Fit s t u) (a1 : Folds.isEdge (L s) (L t) = true) (a2 : fB 3 (s ++ t) = fB 3 s ++ fB 3 t) (a3 : fB 1 (s ++ t) = fB 1 s ++ fB 1 t) (v1 : Lib.validD (L s) = true) (v2 : Lib.validD (L t) = false) (W : World) (hO : ∀ w, Below W.heap.size W w → OpensP w) (hT : Lib.Utf8Tabs 0 1 W) (hlive : ∀ w, Below W.heap.size W w → Lives w) :
    Calls Tryz.prog 7 #[.string s, .string t, .string u] W (LawPost W) := by
  have HL := Lib.hid hlive; have HO := Lib.hid hO; have HT := Lib.hid hT
  obtain ⟨d, d2, h, n1, n2, n3, n4, n5, n6, n7⟩ := hf
  have H := Lib.hid h
  have HB := Lib.hid (Below.refl W.heap.size W)
  clear h hO hT hlive
  go_enter Tryz.func7, Tryz.ntmps7
  go_wp2_with fail
  refine (IsB W HT.out s t H.out.1 H.out.2.1 _ HB.out).mono ?_
  rintro e wz ⟨rfl, hb⟩
  rw [a1]
  have HB := Lib.hid hb; clear hb d d2
  dsimp only
  go_wp2_with fail
  refine (CountB W _ H.out.2.2.2.1 _ HB.out).mono ?_
  rintro e wz ⟨⟨c1, rfl⟩, hb⟩
  have HB := Lib.hid hb; clear hb
  dsimp only
  go_wp2_with fail
  refine (CountB W _ H.out.1 _ HB.out).mono ?_
  rintro e wz ⟨⟨c2, rfl⟩, hb⟩
  have HB := Lib.hid hb; clear hb
  dsimp only
  go_wp2_with fail
  refine (CountB W _ H.out.2.1 _ HB.out).mono ?_
  rintro e wz ⟨⟨c3, rfl⟩, hb⟩
  have HB := Lib.hid hb; clear hb
  dsimp only
  rcases Bool.eq_false_or_eq_true ((c1 : Int) == wrap64 ((c2 : Int) + c3)) with hq | hq
  all_goals
    go_wp2_with (first
      | (go_at_call 20; refine (FoldB W HO.out HT.out _ (by first | exact H.out.1 | exact H.out.2.1 | exact H.out.2.2.1 | exact H.out.2.2.2.1 | exact H.out.2.2.2.2.1 | exact H.out.2.2.2.2.2.1 | exact H.out.2.2.2.2.2.2.1 | exact H.out.2.2.2.2.2.2.2) _ HB.out).mono ?_; rintro e wz ⟨rfl, hb⟩; try rw [a2]
         have HB := Lib.hid hb; clear hb)
      | (go_at_call 19; refine (GreatB W HO.out HT.out _ (by first | exact H.out.1 | exact H.out.2.1 | exact H.out.2.2.1 | exact H.out.2.2.2.1 | exact H.out.2.2.2.2.1 | exact H.out.2.2.2.2.2.1 | exact H.out.2.2.2.2.2.2.1 | exact H.out.2.2.2.2.2.2.2) _ HB.out).mono ?_; rintro e wz ⟨rfl, hb⟩; try rw [a3]
         have HB := Lib.hid hb; clear hb)
      | (go_at_call 27; refine (ValidB W HT.out _ (by first | exact H.out.1 | exact H.out.2.1 | exact H.out.2.2.1 | exact H.out.2.2.2.1 | exact H.out.2.2.2.2.1 | exact H.out.2.2.2.2.2.1 | exact H.out.2.2.2.2.2.2.1 | exact H.out.2.2.2.2.2.2.2) _ HB.out).mono ?_; rintro e wz ⟨rfl, hb⟩; first | rw [v1] | rw [v2]
         have HB := Lib.hid hb; clear hb)
      | (go_at_call 14; refine (EqualB W HO.out HT.out _ _ (by first | exact H.out.1 | exact H.out.2.1 | exact H.out.2.2.1 | exact H.out.2.2.2.1 | exact H.out.2.2.2.2.1 | exact H.out.2.2.2.2.2.1 | exact H.out.2.2.2.2.2.2.1 | exact H.out.2.2.2.2.2.2.2) (by first | exact H.out.1 | exact H.out.2.1 | exact H.out.2.2.1 | exact H.out.2.2.2.1 | exact H.out.2.2.2.2.1 | exact H.out.2.2.2.2.2.1 | exact H.out.2.2.2.2.2.2.1 | exact H.out.2.2.2.2.2.2.2) _ HB.out).mono ?_; rintro e wz ⟨rfl, hb⟩; first  | rw [show decide (wr 3 (L s) = wr 3 (L s)) = true from decide_eq_true rfl]
         have HB := Lib.hid hb; clear hb)
      | (go_at_call 8; refine (HL.out _ HB.out).mono ?_; rintro e wz ⟨rfl, hb⟩; have HB := Lib.hid (HB.out.trans (hb.mono HB.out.size)); clear hb))
  all_goals go_ret
  all_goals exact ⟨rfl, HB.out⟩
set_option maxHeartbeats 4000000 in
set_option maxRecDepth 100000 in
theorem pieces7 (s t u : ByteArray) (hf : Fit s t u) (a1 : Folds.isEdge (L s) (L t) = true) (a2 : fB 3 (s ++ t) = fB 3 s ++ fB 3 t) (a3 : fB 1 (s ++ t) = fB 1 s ++ fB 1 t) (v1 : Lib.validD (L s) = true) (v2 : Lib.validD (L t) = true) (v3 : Lib.validD (L u) = false) (W : World) (hO : ∀ w, Below W.heap.size W w → OpensP w) (hT : Lib.Utf8Tabs 0 1 W) (hlive : ∀ w, Below W.heap.size W w → Lives w) :
    Calls Tryz.prog 7 #[.string s, .string t, .string u] W (LawPost W) := by
  have HL := Lib.hid hlive; have HO := Lib.hid hO; have HT := Lib.hid hT
  obtain ⟨d, d2, h, n1, n2, n3, n4, n5, n6, n7⟩ := hf
  have H := Lib.hid h
  have HB := Lib.hid (Below.refl W.heap.size W)
  clear h hO hT hlive
  go_enter Tryz.func7, Tryz.ntmps7
  go_wp2_with fail
  refine (IsB W HT.out s t H.out.1 H.out.2.1 _ HB.out).mono ?_
  rintro e wz ⟨rfl, hb⟩
  rw [a1]
  have HB := Lib.hid hb; clear hb d d2
  dsimp only
  go_wp2_with fail
  refine (CountB W _ H.out.2.2.2.1 _ HB.out).mono ?_
  rintro e wz ⟨⟨c1, rfl⟩, hb⟩
  have HB := Lib.hid hb; clear hb
  dsimp only
  go_wp2_with fail
  refine (CountB W _ H.out.1 _ HB.out).mono ?_
  rintro e wz ⟨⟨c2, rfl⟩, hb⟩
  have HB := Lib.hid hb; clear hb
  dsimp only
  go_wp2_with fail
  refine (CountB W _ H.out.2.1 _ HB.out).mono ?_
  rintro e wz ⟨⟨c3, rfl⟩, hb⟩
  have HB := Lib.hid hb; clear hb
  dsimp only
  rcases Bool.eq_false_or_eq_true ((c1 : Int) == wrap64 ((c2 : Int) + c3)) with hq | hq
  all_goals
    go_wp2_with (first
      | (go_at_call 20; refine (FoldB W HO.out HT.out _ (by first | exact H.out.1 | exact H.out.2.1 | exact H.out.2.2.1 | exact H.out.2.2.2.1 | exact H.out.2.2.2.2.1 | exact H.out.2.2.2.2.2.1 | exact H.out.2.2.2.2.2.2.1 | exact H.out.2.2.2.2.2.2.2) _ HB.out).mono ?_; rintro e wz ⟨rfl, hb⟩; try rw [a2]
         have HB := Lib.hid hb; clear hb)
      | (go_at_call 19; refine (GreatB W HO.out HT.out _ (by first | exact H.out.1 | exact H.out.2.1 | exact H.out.2.2.1 | exact H.out.2.2.2.1 | exact H.out.2.2.2.2.1 | exact H.out.2.2.2.2.2.1 | exact H.out.2.2.2.2.2.2.1 | exact H.out.2.2.2.2.2.2.2) _ HB.out).mono ?_; rintro e wz ⟨rfl, hb⟩; try rw [a3]
         have HB := Lib.hid hb; clear hb)
      | (go_at_call 27; refine (ValidB W HT.out _ (by first | exact H.out.1 | exact H.out.2.1 | exact H.out.2.2.1 | exact H.out.2.2.2.1 | exact H.out.2.2.2.2.1 | exact H.out.2.2.2.2.2.1 | exact H.out.2.2.2.2.2.2.1 | exact H.out.2.2.2.2.2.2.2) _ HB.out).mono ?_; rintro e wz ⟨rfl, hb⟩; first | rw [v1] | rw [v2] | rw [v3]
         have HB := Lib.hid hb; clear hb)
      | (go_at_call 14; refine (EqualB W HO.out HT.out _ _ (by first | exact H.out.1 | exact H.out.2.1 | exact H.out.2.2.1 | exact H.out.2.2.2.1 | exact H.out.2.2.2.2.1 | exact H.out.2.2.2.2.2.1 | exact H.out.2.2.2.2.2.2.1 | exact H.out.2.2.2.2.2.2.2) (by first | exact H.out.1 | exact H.out.2.1 | exact H.out.2.2.1 | exact H.out.2.2.2.1 | exact H.out.2.2.2.2.1 | exact H.out.2.2.2.2.2.1 | exact H.out.2.2.2.2.2.2.1 | exact H.out.2.2.2.2.2.2.2) _ HB.out).mono ?_; rintro e wz ⟨rfl, hb⟩; first  | rw [show decide (wr 3 (L s) = wr 3 (L s)) = true from decide_eq_true rfl]
         have HB := Lib.hid hb; clear hb)
      | (go_at_call 8; refine (HL.out _ HB.out).mono ?_; rintro e wz ⟨rfl, hb⟩; have HB := Lib.hid (HB.out.trans (hb.mono HB.out.size)); clear hb))
  all_goals go_ret
  all_goals exact ⟨rfl, HB.out⟩
set_option maxHeartbeats 4000000 in
set_option maxRecDepth 100000 in
theorem pieces8 (s t u : ByteArray) (hf : Fit s t u) (a1 : Folds.isEdge (L s) (L t) = true) (a2 : fB 3 (s ++ t) = fB 3 s ++ fB 3 t) (a3 : fB 1 (s ++ t) = fB 1 s ++ fB 1 t) (v1 : Lib.validD (L s) = true) (v2 : Lib.validD (L t) = true) (v3 : Lib.validD (L u) = true) (v4 : decide (wr 3 (L s) = wr 3 (L t)) = false) (W : World) (hO : ∀ w, Below W.heap.size W w → OpensP w) (hT : Lib.Utf8Tabs 0 1 W) (hlive : ∀ w, Below W.heap.size W w → Lives w) :
    Calls Tryz.prog 7 #[.string s, .string t, .string u] W (LawPost W) := by
  have HL := Lib.hid hlive; have HO := Lib.hid hO; have HT := Lib.hid hT
  obtain ⟨d, d2, h, n1, n2, n3, n4, n5, n6, n7⟩ := hf
  have H := Lib.hid h
  have HB := Lib.hid (Below.refl W.heap.size W)
  clear h hO hT hlive
  go_enter Tryz.func7, Tryz.ntmps7
  go_wp2_with fail
  refine (IsB W HT.out s t H.out.1 H.out.2.1 _ HB.out).mono ?_
  rintro e wz ⟨rfl, hb⟩
  rw [a1]
  have HB := Lib.hid hb; clear hb d d2
  dsimp only
  go_wp2_with fail
  refine (CountB W _ H.out.2.2.2.1 _ HB.out).mono ?_
  rintro e wz ⟨⟨c1, rfl⟩, hb⟩
  have HB := Lib.hid hb; clear hb
  dsimp only
  go_wp2_with fail
  refine (CountB W _ H.out.1 _ HB.out).mono ?_
  rintro e wz ⟨⟨c2, rfl⟩, hb⟩
  have HB := Lib.hid hb; clear hb
  dsimp only
  go_wp2_with fail
  refine (CountB W _ H.out.2.1 _ HB.out).mono ?_
  rintro e wz ⟨⟨c3, rfl⟩, hb⟩
  have HB := Lib.hid hb; clear hb
  dsimp only
  rcases Bool.eq_false_or_eq_true ((c1 : Int) == wrap64 ((c2 : Int) + c3)) with hq | hq
  all_goals
    go_wp2_with (first
      | (go_at_call 20; refine (FoldB W HO.out HT.out _ (by first | exact H.out.1 | exact H.out.2.1 | exact H.out.2.2.1 | exact H.out.2.2.2.1 | exact H.out.2.2.2.2.1 | exact H.out.2.2.2.2.2.1 | exact H.out.2.2.2.2.2.2.1 | exact H.out.2.2.2.2.2.2.2) _ HB.out).mono ?_; rintro e wz ⟨rfl, hb⟩; try rw [a2]
         have HB := Lib.hid hb; clear hb)
      | (go_at_call 19; refine (GreatB W HO.out HT.out _ (by first | exact H.out.1 | exact H.out.2.1 | exact H.out.2.2.1 | exact H.out.2.2.2.1 | exact H.out.2.2.2.2.1 | exact H.out.2.2.2.2.2.1 | exact H.out.2.2.2.2.2.2.1 | exact H.out.2.2.2.2.2.2.2) _ HB.out).mono ?_; rintro e wz ⟨rfl, hb⟩; try rw [a3]
         have HB := Lib.hid hb; clear hb)
      | (go_at_call 27; refine (ValidB W HT.out _ (by first | exact H.out.1 | exact H.out.2.1 | exact H.out.2.2.1 | exact H.out.2.2.2.1 | exact H.out.2.2.2.2.1 | exact H.out.2.2.2.2.2.1 | exact H.out.2.2.2.2.2.2.1 | exact H.out.2.2.2.2.2.2.2) _ HB.out).mono ?_; rintro e wz ⟨rfl, hb⟩; first | rw [v1] | rw [v2] | rw [v3]
         have HB := Lib.hid hb; clear hb)
      | (go_at_call 14; refine (EqualB W HO.out HT.out _ _ (by first | exact H.out.1 | exact H.out.2.1 | exact H.out.2.2.1 | exact H.out.2.2.2.1 | exact H.out.2.2.2.2.1 | exact H.out.2.2.2.2.2.1 | exact H.out.2.2.2.2.2.2.1 | exact H.out.2.2.2.2.2.2.2) (by first | exact H.out.1 | exact H.out.2.1 | exact H.out.2.2.1 | exact H.out.2.2.2.1 | exact H.out.2.2.2.2.1 | exact H.out.2.2.2.2.2.1 | exact H.out.2.2.2.2.2.2.1 | exact H.out.2.2.2.2.2.2.2) _ HB.out).mono ?_; rintro e wz ⟨rfl, hb⟩; first | rw [v4] | rw [show decide (wr 3 (L s) = wr 3 (L s)) = true from decide_eq_true rfl]
         have HB := Lib.hid hb; clear hb)
      | (go_at_call 8; refine (HL.out _ HB.out).mono ?_; rintro e wz ⟨rfl, hb⟩; have HB := Lib.hid (HB.out.trans (hb.mono HB.out.size)); clear hb))
  all_goals go_ret
  all_goals exact ⟨rfl, HB.out⟩
set_option maxHeartbeats 4000000 in
set_option maxRecDepth 100000 in
theorem pieces9 (s t u : ByteArray) (hf : Fit s t u) (a1 : Folds.isEdge (L s) (L t) = true) (a2 : fB 3 (s ++ t) = fB 3 s ++ fB 3 t) (a3 : fB 1 (s ++ t) = fB 1 s ++ fB 1 t) (v1 : Lib.validD (L s) = true) (v2 : Lib.validD (L t) = true) (v3 : Lib.validD (L u) = true) (v4 : decide (wr 3 (L s) = wr 3 (L t)) = true) (v5 : decide (wr 3 (L (s ++ u)) = wr 3 (L (t ++ u))) = true) (v6 : decide (wr 3 (L (u ++ s)) = wr 3 (L (u ++ t))) = true) (v7 : decide (wr 3 (L t) = wr 3 (L s)) = true) (W : World) (hO : ∀ w, Below W.heap.size W w → OpensP w) (hT : Lib.Utf8Tabs 0 1 W) (hlive : ∀ w, Below W.heap.size W w → Lives w) :
    Calls Tryz.prog 7 #[.string s, .string t, .string u] W (LawPost W) := by
  have HL := Lib.hid hlive; have HO := Lib.hid hO; have HT := Lib.hid hT
  obtain ⟨d, d2, h, n1, n2, n3, n4, n5, n6, n7⟩ := hf
  have H := Lib.hid h
  have HB := Lib.hid (Below.refl W.heap.size W)
  clear h hO hT hlive
  go_enter Tryz.func7, Tryz.ntmps7
  go_wp2_with fail
  refine (IsB W HT.out s t H.out.1 H.out.2.1 _ HB.out).mono ?_
  rintro e wz ⟨rfl, hb⟩
  rw [a1]
  have HB := Lib.hid hb; clear hb d d2
  dsimp only
  go_wp2_with fail
  refine (CountB W _ H.out.2.2.2.1 _ HB.out).mono ?_
  rintro e wz ⟨⟨c1, rfl⟩, hb⟩
  have HB := Lib.hid hb; clear hb
  dsimp only
  go_wp2_with fail
  refine (CountB W _ H.out.1 _ HB.out).mono ?_
  rintro e wz ⟨⟨c2, rfl⟩, hb⟩
  have HB := Lib.hid hb; clear hb
  dsimp only
  go_wp2_with fail
  refine (CountB W _ H.out.2.1 _ HB.out).mono ?_
  rintro e wz ⟨⟨c3, rfl⟩, hb⟩
  have HB := Lib.hid hb; clear hb
  dsimp only
  rcases Bool.eq_false_or_eq_true ((c1 : Int) == wrap64 ((c2 : Int) + c3)) with hq | hq
  all_goals
    go_wp2_with (first
      | (go_at_call 20; refine (FoldB W HO.out HT.out _ (by first | exact H.out.1 | exact H.out.2.1 | exact H.out.2.2.1 | exact H.out.2.2.2.1 | exact H.out.2.2.2.2.1 | exact H.out.2.2.2.2.2.1 | exact H.out.2.2.2.2.2.2.1 | exact H.out.2.2.2.2.2.2.2) _ HB.out).mono ?_; rintro e wz ⟨rfl, hb⟩; try rw [a2]
         have HB := Lib.hid hb; clear hb)
      | (go_at_call 19; refine (GreatB W HO.out HT.out _ (by first | exact H.out.1 | exact H.out.2.1 | exact H.out.2.2.1 | exact H.out.2.2.2.1 | exact H.out.2.2.2.2.1 | exact H.out.2.2.2.2.2.1 | exact H.out.2.2.2.2.2.2.1 | exact H.out.2.2.2.2.2.2.2) _ HB.out).mono ?_; rintro e wz ⟨rfl, hb⟩; try rw [a3]
         have HB := Lib.hid hb; clear hb)
      | (go_at_call 27; refine (ValidB W HT.out _ (by first | exact H.out.1 | exact H.out.2.1 | exact H.out.2.2.1 | exact H.out.2.2.2.1 | exact H.out.2.2.2.2.1 | exact H.out.2.2.2.2.2.1 | exact H.out.2.2.2.2.2.2.1 | exact H.out.2.2.2.2.2.2.2) _ HB.out).mono ?_; rintro e wz ⟨rfl, hb⟩; first | rw [v1] | rw [v2] | rw [v3]
         have HB := Lib.hid hb; clear hb)
      | (go_at_call 14; refine (EqualB W HO.out HT.out _ _ (by first | exact H.out.1 | exact H.out.2.1 | exact H.out.2.2.1 | exact H.out.2.2.2.1 | exact H.out.2.2.2.2.1 | exact H.out.2.2.2.2.2.1 | exact H.out.2.2.2.2.2.2.1 | exact H.out.2.2.2.2.2.2.2) (by first | exact H.out.1 | exact H.out.2.1 | exact H.out.2.2.1 | exact H.out.2.2.2.1 | exact H.out.2.2.2.2.1 | exact H.out.2.2.2.2.2.1 | exact H.out.2.2.2.2.2.2.1 | exact H.out.2.2.2.2.2.2.2) _ HB.out).mono ?_; rintro e wz ⟨rfl, hb⟩; first | rw [v4] | rw [v5] | rw [v6] | rw [v7] | rw [show decide (wr 3 (L s) = wr 3 (L s)) = true from decide_eq_true rfl]
         have HB := Lib.hid hb; clear hb)
      | (go_at_call 8; refine (HL.out _ HB.out).mono ?_; rintro e wz ⟨rfl, hb⟩; have HB := Lib.hid (HB.out.trans (hb.mono HB.out.size)); clear hb))
  all_goals go_ret
  all_goals exact ⟨rfl, HB.out⟩
end
section
open Go.Shelf Go.RowKit Go.Lib Go.Proofs.YtnfghboholehdaaGreatDoor.Am
theorem FoldPieces_ok (s t u : ByteArray) (hs : s.size ≤ 140737488355328) (ht : t.size ≤ 140737488355328) (hu : u.size ≤ 140737488355328) (W : World) (hO : ∀ w, Below W.heap.size W w → OpensP w) (hT : Lib.Utf8Tabs 0 1 W) (hlive : ∀ w, Below W.heap.size W w → Lives w) :
    Calls Tryz.prog 7 #[.string s, .string t, .string u] W (LawPost W) := by
  rcases Nat.lt_or_ge 80 (s.size + t.size + u.size) with h | h
  · exact Pieces_long s t u hs ht hu h W (hlive W (Below.refl _ _))
  · have hf := fit s t u h
    cases he : Folds.isEdge (L s) (L t)
    · cases h1 : Lib.validD (L s)
      · exact pieces0 s t u hf he h1 W hO hT hlive
      · cases h2 : Lib.validD (L t)
        · exact pieces1 s t u hf he h1 h2 W hO hT hlive
        · cases h3 : Lib.validD (L u)
          · exact pieces2 s t u hf he h1 h2 h3 W hO hT hlive
          · by_cases h4 : wr 3 (L s) = wr 3 (L t)
            · exact pieces4 s t u hf he h1 h2 h3 (decide_eq_true h4) (decide_eq_true (eq_app s t u h1 h2 h4)) (decide_eq_true (eq_pre s t u h3 h4)) (decide_eq_true h4.symm) W hO hT hlive
            · exact pieces3 s t u hf he h1 h2 h3 (decide_eq_false h4) W hO hT hlive
    · have a2 := fB_app 3 s t he
      have a3 := fB_app 1 s t he
      cases h1 : Lib.validD (L s)
      · exact pieces5 s t u hf he a2 a3 h1 W hO hT hlive
      · cases h2 : Lib.validD (L t)
        · exact pieces6 s t u hf he a2 a3 h1 h2 W hO hT hlive
        · cases h3 : Lib.validD (L u)
          · exact pieces7 s t u hf he a2 a3 h1 h2 h3 W hO hT hlive
          · by_cases h4 : wr 3 (L s) = wr 3 (L t)
            · exact pieces9 s t u hf he a2 a3 h1 h2 h3 (decide_eq_true h4) (decide_eq_true (eq_app s t u h1 h2 h4)) (decide_eq_true (eq_pre s t u h3 h4)) (decide_eq_true h4.symm) W hO hT hlive
            · exact pieces8 s t u hf he a2 a3 h1 h2 h3 (decide_eq_false h4) W hO hT hlive
end
end Go.Proofs.YtnfghboholehdaaGreatDoor.foldPieces
