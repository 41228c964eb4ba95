/- SearchLeft, walked: the law itself, where open, props.New and live are given. -/
import Derived.Test.YtmpkgddioiaonaaGreatDoorGB
import Derived.Test.YtmpkgddioiaonaaGreatDoorGC
import Derived.Test.YtmpkgddioiaonaaGreatDoorGA
import Derived.Deep.RegionLaw
import Derived.Deep.DeepCutAuto
import Derived.Deep.CutBlock
namespace Go.Proofs.YtmpkgddioiaonaaGreatDoor.searchLeft
section
open Go.Shelf Go.RowKit Go.Lib Go.Proofs.YtmpkgddioiaonaaGreatDoor.Am
/-- what is asked of a world -/
structure Ask (W : World) : Prop where
 tabs : Lib.Utf8Tabs 1 2 W
 opens : ∀ w, Below W.heap.size W w → OpensP w
 newG : ∀ w, Below W.heap.size W w → NewG w
 newW : ∀ w, Below W.heap.size W w → NewW w
theorem Ask.go {W w : World} (h : Ask W) (hb : Below W.heap.size W w) : Ask w :=
 ⟨tabs_below hb h.tabs, fun v hv => h.opens v (hb.trans (hv.mono hb.size)), fun v hv => h.newG v (hb.trans (hv.mono hb.size)), fun v hv => h.newW v (hb.trans (hv.mono hb.size))⟩
def placesL (s : List UInt8) (fo le wo : Bool) : List Left.Pl := plF (shF fo) (mayF le wo (graB s) (wordB s)) s (s.length + 1) 0
def everyL (s t : List UInt8) (fo le wo : Bool) : List (Nat × Nat) := if t = [] then [] else Left.every (shF fo t) (placesL s fo le wo)
theorem everyL_rise (s t : List UInt8) (fo le wo : Bool) : Left.rise s.length (everyL s t fo le wo) := by
 unfold everyL
 split
 ·trivial
 ·rename_i ht
  refine Left.every_rise ?_ (plF_asc _ _ (Nat.zero_le _))
  unfold shF
  split
  ·exact wr_ne ht
  ·exact ht
theorem everyL_len (s t : List UInt8) (fo le wo : Bool) : (everyL s t fo le wo).length ≤ s.length + 1 := by
 unfold everyL
 split
 ·exact Nat.zero_le _
 ·exact Nat.le_trans (every_len _ _) (plF_len _ _)
theorem everyN_ok (s : ByteArray) (fo le wo : Bool) (W : World) : Calls Tryz.prog 6 #[.string s, .string ⟨#[]⟩, .agg #[.bool fo, .bool le, .bool wo]] W (EveryPost [] W) := by
 go_enter Tryz.func6, Tryz.ntmps6
 go_wp2_with fail
 go_step3
 go_wp2_with fail
 rw [Exit.noGoto_ret]
 go_ret
 exact ⟨_, rfl, (Below.refl _ W).alloc (Nat.le_refl _) _, ⟨rfl, .inl ⟨rfl, rfl⟩⟩⟩
theorem foldS {W : World} (h : Ask W) (x : List UInt8) (w : World) (hb : Below W.heap.size W w) (hx : x.length ≤ 10000) : Calls Tryz.prog 13 #[.string ⟨x.toArray⟩] w fun e w' => e = .returned (.string ⟨(wr 3 x).toArray⟩) ∧ Below w.heap.size w w' :=
 Fold_ok x w (h.opens w hb) (tabs_below hb h.tabs) hx
theorem everyS_ok (s t : List UInt8) (fo le wo : Bool) (W : World) (h : Ask W) (hs : s.length ≤ 10000) (ht : t.length ≤ 10000) :
 Calls Tryz.prog 6 #[.string ⟨s.toArray⟩, .string ⟨t.toArray⟩, .agg #[.bool fo, .bool le, .bool wo]] W (EveryPost (everyL s t fo le wo) W) := by
 by_cases hn : t = []
 ·subst hn
  exact everyN_ok _ fo le wo W
 ·unfold everyL
  rw [if_neg hn]
  refine every_ok _ t (shF fo t) _ fo le wo W hn (plF_ne _ _) (Nat.le_trans (plF_len _ _) (by omega)) (fun e => by subst e; rfl) (fun e w hb => ?_) (fun w hb => ?_)
  ·subst e
   exact foldS h t w hb ht
  ·have h' := h.go hb
   refine places_ok s fo le wo (graB s) (wordB s) w h'.tabs hs (fun _ x v hv hx => foldS h' x v hv hx) (fun _ v hv => graB_ok s v (h'.go hv).newG hs) (fun _ v hv => ?_)
   refine (BoundsX_ok s v (h'.go hv).newW hs).mono ?_
   rintro e u ⟨A, n, c, e1, e2, _, e3⟩
   exact ⟨A, n, c, e1, e2, e3⟩
theorem allS_ok (s t : List UInt8) (fo le wo : Bool) (W : World) (h : Ask W) (hs : s.length ≤ 900) (ht : t.length ≤ 10000) :
 Calls Tryz.prog 5 #[.string ⟨s.toArray⟩, .string ⟨t.toArray⟩, .agg #[.bool fo, .bool le, .bool wo]] W (MatsPost (Left.allG 0 (everyL s t fo le wo)) W) :=
 all_ok _ _ _ fo le wo W (Nat.le_trans (everyL_len s t fo le wo) (by omega)) fun w hb => everyS_ok s t fo le wo w (h.go hb) (by omega) ht
theorem isS_ok (s t : List UInt8) (fo le wo : Bool) (a b : Nat) (W : World) (h : Ask W) (hs : s.length ≤ 900) (ht : t.length ≤ 10000) :
 Calls Tryz.prog 7 #[.string ⟨s.toArray⟩, .string ⟨t.toArray⟩, .agg #[.bool fo, .bool le, .bool wo], .int .i64 a, .int .i64 b] W fun e w' => e = .returned (.bool (decide ((a, b) ∈ everyL s t fo le wo))) ∧ Below W.heap.size W w' :=
 is_ok _ _ _ fo le wo a b W (Nat.le_trans (everyL_len s t fo le wo) (by omega)) fun w hb => everyS_ok s t fo le wo w (h.go hb) (by omega) ht
end
section
open Go.Shelf Go.RowKit Go.Lib Go.Proofs.YtmpkgddioiaonaaGreatDoor.Am
/-- what stands in the law's loops: the box of the way of looking, the two rows of matches -/
structure LS (W : World) (fo le wo : Bool) (A1 : Option Addr) (n1 : Nat) (l1 : List (Nat × Nat)) (A2 : Option Addr) (n2 : Nat) (l2 : List (Nat × Nat)) (w : World) : Prop where
 bel : Below W.heap.size W w
 o : w.heap[W.heap.size]? = some (.cells #[.bool fo, .bool le, .bool wo] 23 (0, 0))
 all : MatR w A1 n1 l1
 every : MatR w A2 n2 l2
theorem LS.go {W w w' : World} {fo le wo : Bool} {A1 A2 : Option Addr} {n1 n2 : Nat} {l1 l2 : List (Nat × Nat)} (h : LS W fo le wo A1 n1 l1 A2 n2 l2 w) (hb : Below w.heap.size w w') : LS W fo le wo A1 n1 l1 A2 n2 l2 w' :=
 ⟨h.bel.trans (hb.mono h.bel.size), below_blk hb h.o, h.all.below hb, h.every.below hb⟩
theorem LS.drewN {W w : World} {fo le wo : Bool} {A1 A2 : Option Addr} {n1 n2 : Nat} {l1 l2 : List (Nat × Nat)} (h : LS W fo le wo A1 n1 l1 A2 n2 l2 w) (n : Nat) : LS W fo le wo A1 n1 l1 A2 n2 l2 (w.drewN n) :=
 ⟨⟨h.bel.os, h.bel.tape, h.bel.output, h.bel.size, h.bel.block⟩, h.o, ⟨h.all.len, h.all.small, h.all.at_⟩, ⟨h.every.len, h.every.small, h.every.at_⟩⟩
/-- what live is to answer -/
def Lives (w : World) : Prop := Calls Tryz.prog 4 #[] w fun e w' => e = .returned (.bool true) ∧ Below w.heap.size w w'
def LawPost (W : World) (e : Ending) (w' : World) : Prop := e = .returned (.bool true) ∧ Below W.heap.size W w'
set_option maxHeartbeats 4000000 in
set_option maxRecDepth 100000 in
theorem law_long (s t : ByteArray) (fo le wo : Bool) (W : World) (hl : ∀ w, Below W.heap.size W w → Lives w) (h : 30 < s.size ∨ 40 < t.size) :
 Calls Tryz.prog 3 #[.string s, .string t, .agg #[.bool fo, .bool le, .bool wo]] W (LawPost W) := by
 have HL := Lib.hid hl; clear hl
 have HB0 := Lib.hid ((Below.refl _ W).alloc (Nat.le_refl W.heap.size) (.cells #[.bool fo, .bool le, .bool wo] 23))
 rcases (by omega : 30 < s.size ∨ (¬ 30 < s.size ∧ 40 < t.size)) with h1 | ⟨h1, h2⟩
 ·have h1i : (30 : Int) < s.size := by omega
  clear h
  go_enter Tryz.func3, Tryz.ntmps3
  go_wp2_with (go_at_call 4; refine (HL.out _ HB0.out).mono ?_; rintro e w1 ⟨rfl, hb⟩; have HB1 := Lib.hid (HB0.out.trans (hb.mono HB0.out.size)); clear hb)
  go_ret
  exact ⟨rfl, HB1.out⟩
 ·have h1i : ¬ (30 : Int) < s.size := by omega
  have h2i : (40 : Int) < t.size := by omega
  clear h
  go_enter Tryz.func3, Tryz.ntmps3
  go_wp2_with (go_at_call 4; refine (HL.out _ HB0.out).mono ?_; rintro e w1 ⟨rfl, hb⟩; have HB1 := Lib.hid (HB0.out.trans (hb.mono HB0.out.size)); clear hb)
  go_ret
  exact ⟨rfl, HB1.out⟩
end
section
open Go.Shelf Go.RowKit Go.Lib Go.Proofs.YtmpkgddioiaonaaGreatDoor.Am
/-- whether a match is among the first k of a list -/
def Among (L : List (Nat × Nat)) (k : Nat) (p : Nat × Nat) (q : Bool) : Prop := q = true ↔ ∃ m, m < k ∧ L.getD m Left.m0 = p
theorem Among.zero (L : List (Nat × Nat)) (p : Nat × Nat) : Among L 0 p false := ⟨(fun h => by cases h), fun ⟨m, h, _⟩ => absurd h (Nat.not_lt_zero m)⟩
theorem Among.keep {L : List (Nat × Nat)} {k : Nat} {p : Nat × Nat} (h : Among L k p true) : Among L (k + 1) p true := by
 obtain ⟨m, h1, h2⟩ := h.1 rfl
 exact ⟨fun _ => ⟨m, by omega, h2⟩, fun _ => rfl⟩
theorem Among.hit {L : List (Nat × Nat)} {k : Nat} {p : Nat × Nat} (h : L.getD k Left.m0 = p) : Among L (k + 1) p true := ⟨fun _ => ⟨k, Nat.lt_succ_self k, h⟩, fun _ => rfl⟩
theorem Among.miss {L : List (Nat × Nat)} {k : Nat} {p : Nat × Nat} (h : Among L k p false) (hne : L.getD k Left.m0 ≠ p) : Among L (k + 1) p false := by
 refine ⟨(fun h => by cases h), ?_⟩
 rintro ⟨m, h1, h2⟩
 rcases Nat.lt_or_ge m k with c | c
 ·exact h.2 ⟨m, c, h2⟩
 ·obtain rfl : m = k := by omega
  exact absurd h2 hne
set_option maxHeartbeats 4000000 in
set_option maxRecDepth 100000 in
theorem law_short (s t : ByteArray) (L1 L : List (Nat × Nat)) (ns nt : Nat) (fo le wo : Bool) (W : World) (hs : s.size = ns) (ht : t.size = nt) (h30 : ns ≤ 30) (h40 : nt ≤ 40)
 (hlive : ∀ w, Below W.heap.size W w → Lives w) (hr : Left.rise ns L) (h1 : L1 = Left.allG 0 L) (hlen : L.length ≤ 31)
 (hAll : ∀ w, Below W.heap.size W w → Calls Tryz.prog 5 #[.string s, .string t, .agg #[.bool fo, .bool le, .bool wo]] w (MatsPost L1 w))
 (hEv : ∀ w, Below W.heap.size W w → Calls Tryz.prog 6 #[.string s, .string t, .agg #[.bool fo, .bool le, .bool wo]] w (EveryPost L w))
 (hIs : ∀ a b w, Below W.heap.size W w → Calls Tryz.prog 7 #[.string s, .string t, .agg #[.bool fo, .bool le, .bool wo], .int .i64 (a : Nat), .int .i64 (b : Nat)] w fun e w' => e = .returned (.bool (decide ((a, b) ∈ L))) ∧ Below w.heap.size w w') :
 Calls Tryz.prog 3 #[.string s, .string t, .agg #[.bool fo, .bool le, .bool wo]] W (LawPost W) := by
 have HL := Lib.hid hlive; have HR := Lib.hid hr; have H1 := Lib.hid h1; have HLEN := Lib.hid hlen; have HAL := Lib.hid hAll; have HEV := Lib.hid hEv; have HIS := Lib.hid hIs
 clear hlive hr h1 hlen hAll hEv hIs
 have hs1 : ¬ (30 : Int) < s.size := by omega
 have ht1 : ¬ (40 : Int) < t.size := by omega
 have HB0 := Lib.hid ((Below.refl _ W).alloc (Nat.le_refl W.heap.size) (.cells #[.bool fo, .bool le, .bool wo] 23))
 have HO0 := Lib.hid (heap_alloc_new W (.cells #[.bool fo, .bool le, .bool wo] 23))
 go_enter Tryz.func3, Tryz.ntmps3
 go_upto_region 3 with fail
 go_cut [7, 8] (fun q r wx => ∃ (A1 : Option Addr) (n1 c1 : Nat) (A2 : Option Addr) (n2 c2 : Nat), q = .slice A1 n1 c1 ∧ r = .slice A2 n2 c2 ∧ LS W fo le wo A1 n1 L1 A2 n2 L wx)
 case first =>
  obtain ⟨w0, hw0⟩ : ∃ w0, W.alloc (.cells #[.bool fo, .bool le, .bool wo] 23) = w0 := ⟨_, rfl⟩
  rw [hw0] at HB0 HO0 ⊢
  clear hw0
  have y0 := (cell_of_row w0 W.heap.size 0 _ _ _ HO0.out).trans rfl
  have y1 := (cell_of_row w0 W.heap.size 1 _ _ _ HO0.out).trans rfl
  have y2 := (cell_of_row w0 W.heap.size 2 _ _ _ HO0.out).trans rfl
  have HBD : Hid (Below W.heap.size W w0.drew) := Lib.hid ⟨HB0.out.os, HB0.out.tape, HB0.out.output, HB0.out.size, HB0.out.block⟩
  have HOD : Hid (w0.drew.heap[W.heap.size]? = some (.cells #[.bool fo, .bool le, .bool wo] 23 (0, 0))) := Lib.hid HO0.out
  go_region_law (first
   | (go_simp; refine (HAL.out _ HBD.out).mono ?_; rintro e w1 ⟨A1, n1, c1, rfl, hm1, hb1⟩; have HM1 := Lib.hid hm1; have HB1 := Lib.hid (HBD.out.trans (hb1.mono HBD.out.size)); have HO1 := Lib.hid (below_blk hb1 HOD.out); have z0 := (cell_of_row w1 W.heap.size 0 _ _ _ HO1.out).trans rfl; have z1 := (cell_of_row w1 W.heap.size 1 _ _ _ HO1.out).trans rfl; have z2 := (cell_of_row w1 W.heap.size 2 _ _ _ HO1.out).trans rfl; clear hm1 hb1; dsimp only)
   | (go_simp; refine (HEV.out _ HB1.out).mono ?_; rintro e w2 ⟨v, rfl, hb2, hown2⟩; obtain ⟨A2, c2, rfl, _⟩ := own_slice hown2; have HM2 := Lib.hid (matR_own rfl hown2 (Nat.le_trans HLEN.out (by decide))); have HM1' := Lib.hid (HM1.out.below hb2); have HB2 := Lib.hid (HB1.out.trans (hb2.mono HB1.out.size)); have HO2 := Lib.hid (below_blk hb2 HO1.out); clear hb2 hown2; dsimp only))
  all_goals go_wp2_with fail
  all_goals go_meet
  all_goals exact ⟨_, _, _, _, _, _, rfl, rfl, HB2.out, HO2.out, HM1'.out, HM2.out⟩
 case rest =>
  obtain ⟨A1, n1, c1, A2, n2, c2, rfl, rfl, hLS⟩ := hcut
  have HLS := Lib.hid hLS
  clear hLS HB0 HO0
  go_upto_block 0 with fail
  go_cut [9] (fun kk wx => kk = .int .i64 (L.length : Nat) ∧ LS W fo le wo A1 n1 L1 A2 n2 L wx)
  case first =>
   go_wp2_with fail
   go_loopw [9, 10, 11] (fun kk ff _ wr => ∃ a : Nat, a ≤ ns + 1 ∧ ff = .int .i64 a ∧ kk = .int .i64 (Left.cnt L a a : Nat) ∧ LS W fo le wo A1 n1 L1 A2 n2 L wr) (fun _ ff _ _ => ns + 1 - (RowKit.intOf ff).toNat)
   case atStart => exact ⟨0, Nat.zero_le _, rfl, by rw [Left.cnt_zero HR.out]; rfl, HLS.out⟩
   case round =>
    obtain ⟨a, ha, rfl, rfl, hS⟩ := hrel
    have HS := Lib.hid hS; clear hS
    by_cases hlt : a ≤ ns
    ·have hai : (a : Int) ≤ ns := by omega
     have hwa : wrap64 ((a : Int) + 1) = ((a + 1 : Nat) : Int) := by unfold wrap64; omega
     have HWA := Lib.hid hwa; clear hwa
     go_wp2_with fail
     go_hide hQ
     go_loopw [9, 11] (fun kk tt wr => ∃ b : Nat, a ≤ b ∧ b ≤ ns + 1 ∧ tt = .int .i64 b ∧ kk = .int .i64 (Left.cnt L a b : Nat) ∧ LS W fo le wo A1 n1 L1 A2 n2 L wr) (fun _ tt _ => ns + 1 - (RowKit.intOf tt).toNat)
     case atStart => exact ⟨a, Nat.le_refl _, Nat.le_succ_of_le hlt, rfl, rfl, HS.out⟩
     case round =>
      obtain ⟨b, hab, hb, rfl, rfl, hS2⟩ := hrel
      have HS2 := Lib.hid hS2; clear hS2
      have y0 := (cell_of_row wr W.heap.size 0 _ _ _ HS2.out.o).trans rfl
      have y1 := (cell_of_row wr W.heap.size 1 _ _ _ HS2.out.o).trans rfl
      have y2 := (cell_of_row wr W.heap.size 2 _ _ _ HS2.out.o).trans rfl
      by_cases hbl : b ≤ ns
      ·have hbi : (b : Int) ≤ ns := by omega
       have hwb : wrap64 ((b : Int) + 1) = ((b + 1 : Nat) : Int) := by unfold wrap64; omega
       have HWB := Lib.hid hwb; clear hwb
       by_cases hm : (a, b) ∈ L
       ·obtain ⟨hget, hnx⟩ := Left.cnt_hit HR.out hm
        obtain ⟨m, hmm⟩ : ∃ m, Left.cnt L a b = m := ⟨_, rfl⟩
        rw [hmm] at hget hnx ⊢
        have hml : m < L.length := (List.getElem?_eq_some_iff.1 hget).1
        have hn2 := HS2.out.every.len
        rw [hn2] at hml
        obtain ⟨g, rfl, hg, hc⟩ := HS2.out.every.at_ (by omega)
        obtain ⟨d0, d1⟩ := hc m hml
        rw [show L.getD m Left.m0 = (a, b) by rw [List.getD_eq_getElem?_getD, hget]; rfl] at d0 d1
        have hmi : ¬ ((n2 : Int) ≤ m) := by omega
        have hm0 : (0 : Int) ≤ m := by omega
        have hm1 : (m : Int) < n2 := by omega
        have hwm : wrap64 ((m : Int) + 1) = ((m + 1 : Nat) : Int) := by have := HLEN.out; unfold wrap64; omega
        have HWM := Lib.hid hwm; clear hwm
        have HNX := Lib.hid hnx
        have HDM := Lib.hid (decide_eq_true hm)
        have HD0 := Lib.hid d0; have HD1 := Lib.hid d1; have HG := Lib.hid hg
        clear hmm hget hnx hc hm d0 d1 hg
        go_wp2_with fail
        refine (HIS.out a b _ HS2.out.bel).mono ?_
        rintro e w5 ⟨rfl, hb5⟩
        rw [HDM.out]
        have HS5 := Lib.hid (HS2.out.go hb5)
        have d0 := (hb5.cell (p := ⟨g, m * 2, none⟩) HG.out).trans HD0.out
        have d1 := (hb5.cell (p := ⟨g, m * 2 + 1, none⟩) HG.out).trans HD1.out
        clear hb5
        dsimp only
        go_wp2_with fail
        exact ⟨⟨b + 1, by omega, by omega, rfl, by rw [HWM.out, HNX.out], HS5.out⟩, by simp [RowKit.intOf]; omega⟩
       ·have HNX := Lib.hid (Left.cnt_miss HR.out hm)
        have HDM := Lib.hid (decide_eq_false hm)
        clear hm
        go_wp2_with fail
        refine (HIS.out a b _ HS2.out.bel).mono ?_
        rintro e w5 ⟨rfl, hb5⟩
        rw [HDM.out]
        have HS5 := Lib.hid (HS2.out.go hb5)
        clear hb5
        dsimp only
        go_wp2_with fail
        exact ⟨⟨b + 1, by omega, by omega, rfl, by rw [HNX.out], HS5.out⟩, by simp [RowKit.intOf]; omega⟩
      ·obtain rfl : b = ns + 1 := by omega
       have HNX := Lib.hid (Left.cnt_next (a := a) HR.out)
       go_wp2_with fail
       subst hQ
       go_wp2_with fail
       exact ⟨⟨a + 1, by omega, rfl, by rw [HNX.out], HS2.out⟩, by simp [RowKit.intOf]; omega⟩
    ·obtain rfl : a = ns + 1 := by omega
     have HNX := Lib.hid (Left.cnt_end HR.out)
     go_wp2_with fail
     go_meet
     exact ⟨by rw [HNX.out], HS.out⟩
  case rest =>
   obtain ⟨rfl, hLS⟩ := hcut
   have HLS := Lib.hid hLS
   have HN2 := Lib.hid hLS.every.len
   clear hLS
   rw [HN2.out]
   go_upto_block 4 with fail
   go_cut [12] (fun _ wx => LS W fo le wo A1 n1 L1 A2 n2 L wx)
   case first =>
    go_wp2_with fail
    go_loopw [12] (fun ii wr => ∃ i : Nat, 1 ≤ i ∧ (i ≤ n1 ∨ i = 1) ∧ ii = .int .i64 i ∧ LS W fo le wo A1 n1 L1 A2 n2 L wr) (fun ii _ => n1 - (RowKit.intOf ii).toNat)
    case atStart => exact ⟨1, Nat.le_refl _, .inr rfl, rfl, HLS.out⟩
    case round =>
     obtain ⟨i, hi1, hin, rfl, hS⟩ := hrel
     have HS := Lib.hid hS; clear hS
     have hsm := HS.out.all.small
     by_cases hlt : i < n1
     ·obtain ⟨i1, rfl⟩ : ∃ i1, i = i1 + 1 := ⟨i - 1, by omega⟩
      have hap := Left.apart_at (Left.allG_apart (e := 0) HR.out) i1 (i1 + 1) (by omega) (by rw [← H1.out, HS.out.all.len]; exact hlt)
      rw [← H1.out] at hap
      obtain ⟨j, hj⟩ : ∃ j, i1 + 1 = j := ⟨_, rfl⟩
      rw [hj] at hap hlt ⊢
      obtain ⟨g, rfl, hg, hc⟩ := HS.out.all.at_ (by omega)
      obtain ⟨d0, d1⟩ := hc j hlt
      obtain ⟨e0, e1⟩ := hc i1 (by omega)
      obtain ⟨⟨x, x2⟩, hx⟩ : ∃ p, L1.getD j Left.m0 = p := ⟨_, rfl⟩
      obtain ⟨⟨y1, y⟩, hy⟩ : ∃ p, L1.getD i1 Left.m0 = p := ⟨_, rfl⟩
      rw [hx] at hap d0 d1
      rw [hy] at hap e0 e1
      dsimp only at hap
      have hxy : ¬ (x : Int) < y := by omega
      have hj0 : (0 : Int) ≤ j := by omega
      have hj1 : (j : Int) < n1 := by omega
      have hk0 : (0 : Int) ≤ i1 := by omega
      have hk1 : (i1 : Int) < n1 := by omega
      have hwi : wrap64 ((j : Int) - 1) = (i1 : Int) := by unfold wrap64; omega
      have hwk : IntKind.i64.wrap ((j : Int) - 1) = (i1 : Int) := (IntWalk.i64_left _).trans hwi
      have HJ := Lib.hid hj
      clear hc hx hy hap hg hj hin hi1
      go_wp2_with fail
      go_quiet (fail)
      go_wp2_with fail
      exact ⟨⟨j + 1, by omega, .inl hlt, rfl, HS.out.drewN _⟩, by simp [RowKit.intOf]; omega⟩
     ·go_wp2_with fail
      go_meet
      exact HS.out
   case rest =>
    have HLS := Lib.hid hcut
    clear hcut
    go_upto_block 6 with fail
    go_cut [13, 14] (fun _ _ wx => LS W fo le wo A1 n1 L1 A2 n2 L wx)
    case first =>
     go_wp2_with fail
     go_loopw [13, 14] (fun jj ii wr => ∃ i j : Nat, i ≤ n2 ∧ j ≤ n1 ∧ ii = .int .i64 i ∧ jj = .int .i64 j ∧ (i < n2 → ∀ k, k < j → ((Left.allG 0 L).getD k Left.m0).2 ≤ (L.getD i Left.m0).1) ∧ LS W fo le wo A1 n1 L1 A2 n2 L wr) (fun _ ii _ => n2 - (RowKit.intOf ii).toNat)
     case atStart => exact ⟨0, 0, Nat.zero_le _, Nat.zero_le _, rfl, rfl, fun _ k hk => absurd hk (Nat.not_lt_zero _), HLS.out⟩
     case round =>
      obtain ⟨i, j0, hi, hj0, rfl, rfl, hk0, hS⟩ := hrel
      have HS := Lib.hid hS; clear hS
      by_cases hlt : i < n2
      ·have HK0 := Lib.hid (hk0 hlt)
       clear hk0
       have hii : (i : Int) < n2 := by omega
       go_wp2_with fail
       go_hide hQ
       go_loopw [13] (fun jj wr => ∃ j : Nat, j ≤ n1 ∧ jj = .int .i64 j ∧ (∀ k, k < j → ((Left.allG 0 L).getD k Left.m0).2 ≤ (L.getD i Left.m0).1) ∧ LS W fo le wo A1 n1 L1 A2 n2 L wr) (fun jj _ => n1 - (RowKit.intOf jj).toNat)
       case atStart => exact ⟨j0, hj0, rfl, HK0.out, HS.out⟩
       case round =>
        obtain ⟨j, hj, rfl, hkj, hS3⟩ := hrel
        have HS3 := Lib.hid hS3; clear hS3
        have hil : i < L.length := by rw [HN2.out]; exact hlt
        obtain ⟨hcv, hor⟩ := Left.cover_at HR.out hil hkj
        rw [← H1.out, HS3.out.all.len] at hcv
        rw [← H1.out] at hor
        obtain ⟨g, rfl, hg, hc⟩ := HS3.out.all.at_ (by omega)
        obtain ⟨g2, rfl, hg2, hc2⟩ := HS3.out.every.at_ (by omega)
        obtain ⟨d0, d1⟩ := hc j hcv
        obtain ⟨e0, e1⟩ := hc2 i hlt
        obtain ⟨⟨x, x2⟩, hx⟩ : ∃ p, L.getD i Left.m0 = p := ⟨_, rfl⟩
        obtain ⟨⟨y, y2⟩, hy⟩ : ∃ p, L1.getD j Left.m0 = p := ⟨_, rfl⟩
        rw [hx] at e0 e1 hor
        rw [hy] at d0 d1 hor
        dsimp only at hor
        have hj0 : (0 : Int) ≤ j := by omega
        have hj1 : (j : Int) < n1 := by omega
        have hi0 : (0 : Int) ≤ i := by omega
        have HX := Lib.hid hx; have HY := Lib.hid hy; have HKJ := Lib.hid hkj
        clear hc hc2 hx hy hkj hg hg2
        by_cases hle : y2 ≤ x
        ·have hlei : (y2 : Int) ≤ x := by omega
         have hdl : decide ((y2 : Int) ≤ x) = true := decide_eq_true hlei
         have hdj : decide ((j : Int) < n1) = true := decide_eq_true hj1
         have hnx : ∀ k, k < j + 1 → ((Left.allG 0 L).getD k Left.m0).2 ≤ (L.getD i Left.m0).1 := fun k hk => by
          rcases Nat.lt_or_ge k j with c | c
          ·exact HKJ.out k c
          ·obtain rfl : k = j := by omega
           rw [← H1.out, HY.out, HX.out]
           exact hle
         have HNX := Lib.hid hnx; clear hnx
         have hwj : wrap64 ((j : Int) + 1) = ((j + 1 : Nat) : Int) := by have := HS3.out.all.small; unfold wrap64; omega
         have HWJ := Lib.hid hwj; clear hwj
         clear hle hor
         go_wp2_with fail
         go_quiet (fail)
         go_wp2_with fail
         rw [HWJ.out]
         exact ⟨⟨j + 1, by omega, rfl, HNX.out, HS3.out.drewN _⟩, by simp [RowKit.intOf]; omega⟩
        ·have hyx : y ≤ x := by omega
         have hlei : ¬ (y2 : Int) ≤ x := by omega
         have hdl : decide ((y2 : Int) ≤ x) = false := decide_eq_false hlei
         have hdj : decide ((j : Int) < n1) = true := decide_eq_true hj1
         have hdj2 : decide ((n1 : Int) ≤ j) = false := decide_eq_false (by omega)
         have hdx : decide ((x : Int) < y) = false := decide_eq_false (by omega)
         have hge : ¬ (n1 : Int) ≤ j := by omega
         have hgx : ¬ (x : Int) < y := by omega
         have hgn : ¬ n1 ≤ j := by omega
         have hgy : ¬ x < y := by omega
         have hwi : wrap64 ((i : Int) + 1) = ((i + 1 : Nat) : Int) := by have := HS3.out.every.small; unfold wrap64; omega
         have hnx : i + 1 < n2 → ∀ k, k < j → ((Left.allG 0 L).getD k Left.m0).2 ≤ (L.getD (i + 1) Left.m0).1 := fun h k hk => by
          have e1 := HKJ.out k hk
          have e2 := Left.rise_at HR.out i (i + 1) (Nat.lt_succ_self i) (by rw [HN2.out]; exact h)
          omega
         have HNX := Lib.hid hnx; clear hnx
         have HWI := Lib.hid hwi; clear hwi
         clear hor hyx
         go_wp2_with fail
         go_quiet (fail)
         subst hQ
         go_upto_region 28 with fail
         go_quiet (fail)
         go_wp2_with fail
         rw [HWI.out]
         exact ⟨⟨i + 1, j, by omega, hj, rfl, rfl, HNX.out, HS3.out.drewN _⟩, by simp [RowKit.intOf]; omega⟩
      ·obtain rfl : i = n2 := by omega
       go_wp2_with fail
       go_meet
       exact HS.out
    case rest =>
     have HLS := Lib.hid hcut
     clear hcut
     go_upto_block 10 with fail
     go_cut [15, 16, 17] (fun _ _ _ wx => LS W fo le wo A1 n1 L1 A2 n2 L wx)
     case first =>
      go_wp2_with fail
      go_loopw [15, 16, 17] (fun ii _ _ wr => ∃ i : Nat, i ≤ n1 ∧ ii = .int .i64 i ∧ LS W fo le wo A1 n1 L1 A2 n2 L wr) (fun ii _ _ _ => n1 - (RowKit.intOf ii).toNat)
      case atStart => exact ⟨0, Nat.zero_le _, rfl, HLS.out⟩
      case round =>
       obtain ⟨i, hi, rfl, hS⟩ := hrel
       have HS := Lib.hid hS; clear hS
       by_cases hlt : i < n1
       ·have hii : (i : Int) < n1 := by omega
        have hi0 : (0 : Int) ≤ i := by omega
        have hwi : wrap64 ((i : Int) + 1) = ((i + 1 : Nat) : Int) := by have := HS.out.all.small; unfold wrap64; omega
        have HWI := Lib.hid hwi; clear hwi
        obtain ⟨⟨x, y⟩, hx⟩ : ∃ p, L1.getD i Left.m0 = p := ⟨_, rfl⟩
        have HX := Lib.hid hx; clear hx
        go_wp2_with fail
        go_hide hQ
        go_loopw [16, 17] (fun bb kk wr => ∃ (k : Nat) (q : Bool), k ≤ n2 ∧ kk = .int .i64 k ∧ bb = .bool q ∧ Among L k (x, y) q ∧ LS W fo le wo A1 n1 L1 A2 n2 L wr) (fun _ kk _ => n2 - (RowKit.intOf kk).toNat)
        case atStart => exact ⟨0, false, Nat.zero_le _, rfl, rfl, Among.zero L (x, y), HS.out⟩
        case round =>
         obtain ⟨k, q, hk, rfl, rfl, hq, hS3⟩ := hrel
         have HS3 := Lib.hid hS3; have HQ := Lib.hid hq; clear hS3 hq
         by_cases hkl : k < n2
         ·have hkk : (k : Int) < n2 := by omega
          have hk0 : (0 : Int) ≤ k := by omega
          have hwk : wrap64 ((k : Int) + 1) = ((k + 1 : Nat) : Int) := by have := HS3.out.every.small; unfold wrap64; omega
          have HWK := Lib.hid hwk; clear hwk
          obtain ⟨⟨a, b⟩, ha⟩ : ∃ p, L.getD k Left.m0 = p := ⟨_, rfl⟩
          have HA := Lib.hid ha
          rcases Bool.eq_false_or_eq_true q with e | e
          ·subst e
           clear ha
           have HNQ := Lib.hid HQ.out.keep
           go_wp2_with fail
           go_quiet (fail)
           go_wp2_with fail
           rw [HWK.out]
           exact ⟨⟨k + 1, true, by omega, rfl, rfl, HNQ.out, HS3.out.drewN _⟩, by simp [RowKit.intOf]; omega⟩
          ·subst e
           obtain ⟨g, rfl, hg, hc⟩ := HS3.out.all.at_ (by omega)
           obtain ⟨g2, rfl, hg2, hc2⟩ := HS3.out.every.at_ (by omega)
           obtain ⟨d0, d1⟩ := hc i hlt
           obtain ⟨e0, e1⟩ := hc2 k hkl
           rw [ha] at e0 e1
           rw [HX.out] at d0 d1
           clear hc hc2 hg hg2 ha
           by_cases hax : a = x
           ·subst hax
            by_cases hby : b = y
            ·subst hby
             go_wp2_with fail
             go_quiet (fail)
             go_wp2_with fail
             rw [HWK.out]
             exact ⟨⟨k + 1, true, by omega, rfl, by simp, Among.hit HA.out, HS3.out.drewN _⟩, by simp [RowKit.intOf]; omega⟩
            ·have hyi : ¬ (b : Int) = y := by omega
             have hyb : ((b : Int) == (y : Int)) = false := beq_eq_false_iff_ne.2 hyi
             have HNE := Lib.hid (show (a, b) ≠ (a, y) from fun h => hby (by injection h))
             go_wp2_with fail
             go_quiet (fail)
             go_wp2_with fail
             rw [HWK.out]
             exact ⟨⟨k + 1, false, by omega, rfl, by simp, Among.miss HQ.out (fun h => HNE.out (HA.out.symm.trans h)), HS3.out.drewN _⟩, by simp [RowKit.intOf]; omega⟩
           ·have hxi : ¬ (a : Int) = x := by omega
            have hxb : ((a : Int) == (x : Int)) = false := beq_eq_false_iff_ne.2 hxi
            have HNE := Lib.hid (show (a, b) ≠ (x, y) from fun h => hax (by injection h))
            go_wp2_with fail
            go_quiet (fail)
            go_wp2_with fail
            rw [HWK.out]
            exact ⟨⟨k + 1, false, by omega, rfl, by simp, Among.miss HQ.out (fun h => HNE.out (HA.out.symm.trans h)), HS3.out.drewN _⟩, by simp [RowKit.intOf]; omega⟩
         ·obtain rfl : k = n2 := by omega
          have hqt : q = true := HQ.out.2 (by
           obtain ⟨m, h1, h2⟩ := Left.all_in HR.out (i := i) (by rw [← H1.out, HS3.out.all.len]; exact hlt)
           rw [← H1.out, HX.out] at h2
           exact ⟨m, by rw [← HN2.out]; exact h1, h2⟩)
          subst hqt
          go_wp2_with fail
          subst hQ
          go_wp2_with fail
          rw [HWI.out]
          exact ⟨⟨i + 1, by omega, rfl, HS3.out⟩, by simp [RowKit.intOf]; omega⟩
       ·obtain rfl : i = n1 := by omega
        go_wp2_with fail
        go_meet
        exact HS.out
     case rest =>
      have HLS := Lib.hid hcut
      clear hcut
      go_wp2_with (go_at_call 4; refine (HL.out _ HLS.out.bel).mono ?_; rintro e w1 ⟨rfl, hb⟩; have HB1 := Lib.hid (HLS.out.bel.trans (hb.mono HLS.out.bel.size)); clear hb)
      go_ret
      exact ⟨rfl, HB1.out⟩
end
section
open Go.Shelf Go.RowKit Go.Lib Go.Proofs.YtmpkgddioiaonaaGreatDoor.Am
theorem bytes_list (s : ByteArray) : (⟨s.data.toList.toArray⟩ : ByteArray) = s := by rw [Array.toArray_toList]
theorem SearchLeft_ok (s t : ByteArray) (fo le wo : Bool) (W : World) (h : Ask W) (hl : ∀ w, Below W.heap.size W w → Lives w) :
 Calls Tryz.prog 3 #[.string s, .string t, .agg #[.bool fo, .bool le, .bool wo]] W (LawPost W) := by
 have ls : s.data.toList.length = s.size := Array.length_toList
 have lt : t.data.toList.length = t.size := Array.length_toList
 rcases (by omega : (30 < s.size ∨ 40 < t.size) ∨ (s.size ≤ 30 ∧ t.size ≤ 40)) with c | ⟨c1, c2⟩
 ·exact law_long s t fo le wo W hl c
 ·refine law_short s t _ (everyL s.data.toList t.data.toList fo le wo) s.size t.size fo le wo W rfl rfl c1 c2 hl (by rw [← ls]; exact everyL_rise _ _ fo le wo) rfl (Nat.le_trans (everyL_len _ _ fo le wo) (by omega)) (fun w hb => ?_) (fun w hb => ?_) (fun a b w hb => ?_)
  ·have := allS_ok s.data.toList t.data.toList fo le wo w (h.go hb) (by omega) (by omega)
   rwa [bytes_list, bytes_list] at this
  ·have := everyS_ok s.data.toList t.data.toList fo le wo w (h.go hb) (by omega) (by omega)
   rwa [bytes_list, bytes_list] at this
  ·have := isS_ok s.data.toList t.data.toList fo le wo a b w (h.go hb) (by omega) (by omega)
   rwa [bytes_list, bytes_list] at this
end
end Go.Proofs.YtmpkgddioiaonaaGreatDoor.searchLeft
