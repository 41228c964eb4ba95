/- FoldWrites, walked: the law itself, where open, New and live are given. -/
import Derived.Test.YtnfghboholehdaaGreatDoorFK
import Derived.Test.YtnfghboholehdaaGreatDoorFJ
import Derived.Test.YtnfghboholehdaaGreatDoorFI
namespace Go.Proofs.YtnfghboholehdaaGreatDoor.foldWrites
section
open Go.Shelf Go.RowKit Go.Lib Go.Proofs.YtnfghboholehdaaGreatDoor.Am
/-- what live() is to do -/
def Lives (w : World) : Prop := Calls Tryz.prog 8 #[] w fun e w' => e = .returned (.bool true) ∧ Below w.heap.size w w'
/-- what kerfref19.New() is to do -/
def NewG (w : World) : Prop := Calls Tryz.prog 10 #[] w fun e w' => ∃ v, e = .returned v ∧ BookG w' v ∧ Below w.heap.size w w'
def LawPost (W : World) (e : Ending) (w' : World) : Prop := e = .returned (.bool true) ∧ Below W.heap.size W w'
def L (s : ByteArray) : List UInt8 := s.data.toList
theorem mk_L (s : ByteArray) : (⟨(L s).toArray⟩ : ByteArray) = s := by cases s; simp [L]
theorem intsW_get : ∀ (l : List Int) (j : Nat), j < l.length → (intsW l)[j]? = some (.int .i64 (l.getD j 0))
 | [], _, h => absurd h (Nat.not_lt_zero _)
 | _ :: _, 0, _ => rfl
 | _ :: l, j + 1, h => intsW_get l j (Nat.lt_of_succ_lt_succ h)
theorem intsR_own {w : World} {base n c : Nat} {A : Option Addr} {zs : List Int} (hn : zs.length = n) (h : w.ownsRow base 3 1 (.slice A n c) n (intsW zs)) (hs : n ≤ 100000) : IntsR w A n zs := by
 refine ⟨hn, hs, fun h0 => ?_⟩
 obtain ⟨g, rfl⟩ := own_some h h0
 refine ⟨g, 0, rfl, (own_lt h (g := g) rfl).2.1, fun j hj => ?_⟩
 have hc := World.ownsRow.cells (g := g) h rfl j _ (intsW_get zs j (by omega))
 rwa [add_none] at hc
theorem intsR_below {w w' : World} {A : Option Addr} {n : Nat} {zs : List Int} (h : IntsR w A n zs) (hb : Below w.heap.size w w') : IntsR w' A n zs :=
 ⟨h.len, h.small, fun h0 => by
  obtain ⟨g, o, e, hg, hc⟩ := h.at_ h0
  exact ⟨g, o, e, Nat.lt_of_lt_of_le hg hb.size, fun j hj => by rw [hb.cell (p := ⟨g, o + j, none⟩) hg]; exact hc j hj⟩⟩
theorem openW_opens {w : World} (h : OpensW w) : OpensP w := Calls.mono h fun _ _ ⟨v, e, h1, h2⟩ => ⟨v, e, openW_P h1, h2⟩
set_option maxRecDepth 100000 in
theorem writes_long (S : ByteArray) (h : 80 < S.size) (W : World) (hlive : Lives W) : Calls Tryz.prog 5 #[.string S] W (LawPost W) := by
 have HL := Lib.hid hlive
 clear hlive
 go_enter Tryz.func5, Tryz.ntmps5
 go_wp2_with (go_at_call 8; refine HL.out.mono ?_; rintro e w1 ⟨rfl, hb⟩; have HB := Lib.hid hb; clear hb)
 all_goals go_ret
 all_goals exact ⟨rfl, HB.out⟩
set_option maxRecDepth 100000 in
set_option maxHeartbeats 4000000 in
theorem writes_short (t : List UInt8) (S : ByteArray) (hS : (⟨t.toArray⟩ : ByteArray) = S) (h : S.size ≤ 80) (W : World) (hO : ∀ w, Below W.heap.size W w → OpensW w) (hT : Lib.Utf8Tabs 0 1 W) (hN : ∀ w, Below W.heap.size W w → NewG w) (hlive : ∀ w, Below W.heap.size W w → Lives w) :
 Calls Tryz.prog 5 #[.string S] W (LawPost W) := by
 have hl : t.length ≤ 80 := by rw [← size_mk t S hS]; omega
 have hl4 : t.length ≤ 10000 := by omega
 obtain ⟨X0, hX0⟩ : ∃ X : ByteArray, (⟨(smallT t).toArray⟩ : ByteArray) = X := ⟨_, rfl⟩
 obtain ⟨X1, hX1⟩ : ∃ X : ByteArray, (⟨(wr 1 t).toArray⟩ : ByteArray) = X := ⟨_, rfl⟩
 obtain ⟨X3, hX3⟩ : ∃ X : ByteArray, (⟨(wr 3 t).toArray⟩ : ByteArray) = X := ⟨_, rfl⟩
 obtain ⟨XT, hXT⟩ : ∃ X : ByteArray, (⟨(turnT t).toArray⟩ : ByteArray) = X := ⟨_, rfl⟩
 obtain ⟨zs, hzs⟩ : ∃ zs, (mk4s t).flatMap (atM 3 t) = zs := ⟨_, rfl⟩
 obtain ⟨n, hn⟩ : ∃ n, zs.length = n := ⟨_, rfl⟩
 have hn4 : n ≤ 100000 := by
  have h1 := at_len 3 t (mk4s t) (mk4_wid t t.length 0) (mk4s t).length
  rw [List.take_length, hzs, hn] at h1
  have h2 : (mk4s t).length ≤ t.length := mk4_len t t.length 0
  omega
 have D0 := Lib.hid (fun v w (hv : BookG w v) => show Calls Tryz.prog 16 #[v, .string S, .int .i64 0] w fun e w' => ∃ v, e = .returned (.tuple #[.string X0, v]) ∧ Below w.heap.size w w' from by
  rw [← hS, ← hX0]; exact BWrite0_ok t v w hv hl4)
 have D1 := Lib.hid (fun v w (hv : BookG w v) => show Calls Tryz.prog 16 #[v, .string S, .int .i64 1] w fun e w' => ∃ v, e = .returned (.tuple #[.string X1, v]) ∧ Below w.heap.size w w' from by
  rw [← hS, ← hX1]; exact (BWrite_ok t 1 (by decide) (by decide) v w hv.1 hl4).mono fun _ _ ⟨v, e, _, hb⟩ => ⟨v, e, hb⟩)
 have D3 := Lib.hid (fun v w (hv : BookG w v) => show Calls Tryz.prog 16 #[v, .string S, .int .i64 3] w fun e w' => ∃ A c, e = .returned (.tuple #[.string X3, .slice A n c]) ∧ IntsR w' A n zs ∧ Below w.heap.size w w' from by
  rw [← hS, ← hX3]
  refine (BWrite_ok t 3 (by decide) (by decide) v w hv.1 hl4).mono ?_
  rintro e w' ⟨u, rfl, ho, hb⟩
  rw [hzs, hn] at ho
  obtain ⟨A, c, rfl, _⟩ := own_slice3 ho
  exact ⟨A, c, rfl, intsR_own hn ho hn4, hb⟩)
 have P3 := Lib.hid (fun w (hb : Below W.heap.size W w) => show Calls Tryz.prog 17 #[.string S] w fun e w' => ∃ A c, e = .returned (.tuple #[.string X3, .slice A n c]) ∧ IntsR w' A n zs ∧ Below w.heap.size w w' from by
  rw [← hS, ← hX3]
  refine (Folded_ok t w (openW_opens (hO w hb)) (tabs_below hb hT) hl4).mono ?_
  rintro e w' ⟨u, rfl, ho, hb⟩
  rw [hzs, hn] at ho
  obtain ⟨A, c, rfl, _⟩ := own_slice3 ho
  exact ⟨A, c, rfl, intsR_own hn ho hn4, hb⟩)
 have PS := Lib.hid (fun w (hb : Below W.heap.size W w) => show Calls Tryz.prog 18 #[.string S] w fun e w' => e = .returned (.string X0) ∧ Below w.heap.size w w' from by
  rw [← hS, ← hX0]; exact Small_ok t w (hO w hb) (tabs_below hb hT) hl4)
 have PG := Lib.hid (fun w (hb : Below W.heap.size W w) => show Calls Tryz.prog 19 #[.string S] w fun e w' => e = .returned (.string X1) ∧ Below w.heap.size w w' from by
  rw [← hS, ← hX1]; exact Great_ok t w (openW_opens (hO w hb)) (tabs_below hb hT) hl4)
 have PF := Lib.hid (fun w (hb : Below W.heap.size W w) => show Calls Tryz.prog 20 #[.string S] w fun e w' => e = .returned (.string X3) ∧ Below w.heap.size w w' from by
  rw [← hS, ← hX3]; exact Fold_ok t w (openW_opens (hO w hb)) (tabs_below hb hT) hl4)
 have PT := Lib.hid (fun w (hb : Below W.heap.size W w) => show Calls Tryz.prog 22 #[.string S] w fun e w' => e = .returned (.string XT) ∧ Below w.heap.size w w' from by
  rw [← hS, ← hXT]; exact Turned_ok t w (hO w hb) (tabs_below hb hT) hl4)
 have DT := Lib.hid (fun v w (hv : BookG w v) => show Calls Tryz.prog 23 #[v, .string S] w fun e w' => e = .returned (.string XT) ∧ Below w.heap.size w w' from by
  rw [← hS, ← hXT]; exact BTurned_ok t v w hv.1 hl4)
 have HNW := Lib.hid hN; have HLV := Lib.hid hlive
 clear hS hX0 hX1 hX3 hXT hzs hn hn4 hl hl4 hO hT hN hlive
 go_enter Tryz.func5, Tryz.ntmps5
 go_wp2_with (first
  | (go_at_call 10; refine (HNW.out _ (Below.refl _ _)).mono ?_; rintro e w1 ⟨v, rfl, hv, hb⟩; have HV := Lib.hid hv; have HB1 := Lib.hid hb; clear hv hb)
  | (go_at_call 16; refine (D0.out _ _ HV.out).mono ?_; rintro e w2 ⟨v2, rfl, hb⟩; have HK2 := Lib.hid hb; clear hb D0)
  | (go_at_call 16; refine (D1.out _ _ (bookG_below HV.out HK2.out)).mono ?_; rintro e w3 ⟨v3, rfl, hb⟩; have HK3 := Lib.hid (HK2.out.trans (hb.mono HK2.out.size)); clear hb D1)
  | (go_at_call 16; refine (D3.out _ _ (bookG_below HV.out HK3.out)).mono ?_; rintro e w4 ⟨A4, c4, rfl, hi, hb⟩; have HI4 := Lib.hid hi; have HK4 := Lib.hid (HK3.out.trans (hb.mono HK3.out.size)); have HB4 := Lib.hid (HB1.out.trans (HK4.out.mono HB1.out.size)); clear hb hi D3)
  | (go_at_call 17; refine (P3.out _ HB4.out).mono ?_; rintro e w5 ⟨A5, c5, rfl, hi, hb⟩; have HI5 := Lib.hid hi; have HJ5 := Lib.hid hb; clear hb hi)
  | (go_at_call 18; refine (PS.out _ (HB4.out.trans (HJ5.out.mono HB4.out.size))).mono ?_; rintro e w6 ⟨rfl, hb⟩; have HJ6 := Lib.hid (HJ5.out.trans (hb.mono HJ5.out.size)); have HG6 := Lib.hid hb; clear hb)
  | (go_at_call 19; refine (PG.out _ (HB4.out.trans (HJ6.out.mono HB4.out.size))).mono ?_; rintro e w7 ⟨rfl, hb⟩; have HJ7 := Lib.hid (HJ6.out.trans (hb.mono HJ6.out.size)); have HG7 := Lib.hid (HG6.out.trans (hb.mono HG6.out.size)); clear hb)
  | (go_at_call 20; refine (PF.out _ (HB4.out.trans (HJ7.out.mono HB4.out.size))).mono ?_; rintro e w8 ⟨rfl, hb⟩; have HJ8 := Lib.hid (HJ7.out.trans (hb.mono HJ7.out.size)); have HG8 := Lib.hid (HG7.out.trans (hb.mono HG7.out.size)); clear hb)
  | (go_at_call 21; refine (Places_ok zs _ _ n _ _ _ (intsR_below HI5.out HG8.out) (intsR_below HI4.out HJ8.out)).mono ?_; rintro e w9 ⟨rfl, hb⟩; have HJ9 := Lib.hid (HJ8.out.trans (hb.mono HJ8.out.size)); clear hb)
  | (go_at_call 22; refine (PT.out _ (HB4.out.trans (HJ9.out.mono HB4.out.size))).mono ?_; rintro e wa ⟨rfl, hb⟩; have HJa := Lib.hid (HJ9.out.trans (hb.mono HJ9.out.size)); clear hb)
  | (go_at_call 23; refine (DT.out _ _ (bookG_below HV.out (HK4.out.trans (HJa.out.mono HK4.out.size)))).mono ?_; rintro e wb ⟨rfl, hb⟩; have HJb := Lib.hid (HJa.out.trans (hb.mono HJa.out.size)); clear hb)
  | (go_at_call 8; refine (HLV.out _ (HB4.out.trans (HJb.out.mono HB4.out.size))).mono ?_; rintro e wc ⟨rfl, hb⟩; have HJc := Lib.hid (HJb.out.trans (hb.mono HJb.out.size)); clear hb))
 go_ret
 exact ⟨rfl, HB4.out.trans (HJc.out.mono HB4.out.size)⟩
theorem FoldWrites_ok (s : ByteArray) (W : World) (hO : ∀ w, Below W.heap.size W w → OpensW w) (hT : Lib.Utf8Tabs 0 1 W) (hN : ∀ w, Below W.heap.size W w → NewG w) (hlive : ∀ w, Below W.heap.size W w → Lives w) :
 Calls Tryz.prog 5 #[.string s] W (LawPost W) := by
 rcases Nat.lt_or_ge 80 s.size with h | h
 ·exact writes_long s h W (hlive W (Below.refl _ _))
 ·exact writes_short (L s) s (mk_L s) h W hO hT hN hlive
end
end Go.Proofs.YtnfghboholehdaaGreatDoor.foldWrites
