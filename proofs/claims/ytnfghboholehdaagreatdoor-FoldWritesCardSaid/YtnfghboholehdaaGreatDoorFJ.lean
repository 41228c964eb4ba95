/- FoldWrites, walked: Turned, Folded; the document's Places, Turned. -/
import Derived.Test.YtnfghboholehdaaGreatDoorFG
import Derived.Test.YtnfghboholehdaaGreatDoorFI
import Derived.Laws.OwnMore
import Derived.Test.YtnfghboholehdaaGreatDoorFC
import Derived.BigQuiet
import Derived.Test.YtnfghboholehdaaGreatDoorFB
import Derived.IntWalk
import Derived.Test.YtnfghboholehdaaGreatDoorFE
namespace Go.Proofs.YtnfghboholehdaaGreatDoor.foldWrites
section
open Go.Shelf Go.RowKit Go.Lib Go.Proofs.YtnfghboholehdaaGreatDoor.Am
open Cases (smalls greats)
open Folds (dec dec_pos dec_le)
/-- the text that Turned puts in the place of a rune -/
def turX (r : Nat) (x : List UInt8) : List UInt8 := match Cases.look greats r with
 | some g => (Utf8.encode g).data.toList
 | none => match Cases.look smalls r with
   | some s => (Utf8.encode s).data.toList
   | none => if (r : Int) = 65533 then x else (Utf8.encode r).data.toList
def turP (p : Pc) : Pc := (p.1, p.2.1, turX p.2.1 p.2.2)
theorem fffd_facts : Cases.look greats 65533 = none ∧ Cases.look smalls 65533 = none ∧ encL (formV 65533 0) = (Utf8.encode 65533).data.toList ∧ Cases.cased 65533 = false := by decide +kernel
theorem turX_one (fin : Nat → Bool) (i : Nat) (l : List UInt8) : turX (dec l).1 (Folds.one (encW 0 fin i) l) = Folds.one encTurn l := by
 unfold turX Folds.one encTurn turn
 by_cases hb : (dec l).1 = 65533 ∧ (dec l).2 = 1
 ·rw [if_pos hb, if_pos hb, hb.1]
  rw [show ((65533 : Nat) : Int) = 65533 from rfl, fffd_facts.1, fffd_facts.2.1, if_pos rfl]
 ·rw [if_neg hb, if_neg hb]
  by_cases h5 : (dec l).1 = 65533
  ·rw [h5, show ((65533 : Nat) : Int) = 65533 from rfl, fffd_facts.1, fffd_facts.2.1, if_pos rfl]
   unfold encW
   rw [if_neg (fun h => absurd h.1.2 (by decide))]
   exact fffd_facts.2.2.1
  ·cases Cases.look greats ((dec l).1 : Int) with
   | some g => rfl
   | none =>
     cases Cases.look smalls ((dec l).1 : Int) with
     | some s => rfl
     | none =>
       dsimp only
       rw [if_neg (by omega)]
theorem map_turP (fin : Nat → Bool) (t : List UInt8) : ∀ n i e, (pcs (encW 0 fin) t n i e).map turP = pcs (fun _ => encTurn) t n i e
 | 0, _, _ => rfl
 | n + 1, i, e => by
   show (if e < t.length then _ else _ : List Pc).map turP = if e < t.length then _ else _
   split
   ·rw [List.map_cons, map_turP fin t n]
    congr 1
    rw [← turX_one fin i (t.drop e)]
    rfl
   ·rfl
theorem catP_turned (fin : Nat → Bool) (t : List UInt8) : catP ((pcsOf 0 fin t).map turP) = turnT t := by
 unfold pcsOf turnT
 rw [map_turP]
/-! ### a piece's text is written anew -/
theorem set_piece (A B : List Pc) (p : Pc) (X : List UInt8) : (piecesV (A ++ p :: B)).set (A.length * 3 + 2) (.string ⟨X.toArray⟩) = piecesV (A ++ (p.1, p.2.1, X) :: B) := by
 rw [piecesV_app, piecesV_app, ← piecesV_len A, List.set_append_right _ _ (by omega), Nat.add_sub_cancel_left]
 rfl
theorem get_mid (A B : List Pc) (p : Pc) : (A ++ p :: B).getD A.length pc0 = p := by
 rw [List.getD_eq_getElem?_getD, List.getElem?_append_right (Nat.le_refl _), Nat.sub_self]
 rfl
theorem drop_mid (l : List Pc) (k : Nat) (h : k < l.length) : l.drop k = l.getD k pc0 :: l.drop (k + 1) := by
 rw [List.drop_eq_getElem_cons h, List.getD_eq_getElem?_getD, List.getElem?_eq_getElem h]
 rfl
theorem take_mid (l : List Pc) (k : Nat) (h : k < l.length) : l.take (k + 1) = l.take k ++ [l.getD k pc0] := by
 rw [List.take_add_one, List.getD_eq_getElem?_getD, List.getElem?_eq_getElem h]
 rfl
/-- the row of pieces, a piece of it in sight -/
structure RowK (w : World) (base g n c k : Nat) (A B : List Pc) (p : Pc) : Prop where
 own : w.ownsRow base 46 3 (.slice (some ⟨g, 0, none⟩) n c) n (piecesV (A ++ p :: B))
 len : A.length = k
theorem RowK.cells {w : World} {base g n c k : Nat} {A B : List Pc} {p : Pc} (h : RowK w base g n c k A B p) (hk : k < n) :
 w.cell? ⟨g, k * 3, none⟩ = some (.int .i64 p.1) ∧ w.cell? ⟨g, k * 3 + 1, none⟩ = some (.int .i32 p.2.1) ∧ w.cell? ⟨g, k * 3 + 2, none⟩ = some (.string ⟨p.2.2.toArray⟩) ∧ w.frozen? ⟨g, k * 3 + 2, none⟩ = false ∧ base ≤ g ∧ g < w.heap.size := by
 obtain ⟨h1, h2⟩ := h
 have hl : k < (A ++ p :: B).length := by rw [List.length_append, List.length_cons, ← h2]; omega
 have hg := piecesV_get (A ++ p :: B) k hl
 rw [← h2, get_mid, h2] at hg
 refine ⟨?_, ?_, ?_, h1.frozenAt _, ?_⟩
 ·rw [h1.cellAt _ (by omega)]; exact hg.1
 ·rw [h1.cellAt _ (by omega)]; exact hg.2.1
 ·rw [h1.cellAt _ (by omega)]; exact hg.2.2
 ·exact ⟨(own_lt h1 rfl).1, (own_lt h1 rfl).2.1⟩
theorem RowK.set {w : World} {base g n c k : Nat} {A B : List Pc} {p : Pc} (h : RowK w base g n c k A B p) (X : List UInt8) :
 (w.setCell ⟨g, k * 3 + 2, none⟩ (.string ⟨X.toArray⟩)).ownsRow base 46 3 (.slice (some ⟨g, 0, none⟩) n c) n (piecesV ((A ++ [(p.1, p.2.1, X)]) ++ B)) := by
 obtain ⟨h1, rfl⟩ := h
 have h2 := (h1.stored (A.length * 3 + 2) (.string ⟨X.toArray⟩)).1
 rw [set_piece] at h2
 rw [List.append_assoc]
 exact h2
theorem own_drewN {w : World} {base : Nat} {e : TypeId} {size n : Nat} {v : Value} {xs : List Value} (h : w.ownsRow base e size v n xs) (q : Nat) : (w.drewN q).ownsRow base e size v n xs := h
/-! ### a lookup in a region that draws its order -/
theorem quiet_look {P : Program} {o : Oper} {a : Act} {C : World → Prop} {K : Act → Prop} (m x : Operand) (t : TypeId) (hop : o.op = Op.lookup t m x true)
 {kt et : TypeId} {i : TypeInfo} {z : Value} (ht : P.underlying t = some (.map kt et)) (hk : P.underlying kt = some (.int .i32)) (hi : P.info? et = some i) (hz : i.zero = some z) {B : Nat} {r : Int} {l : List (Int × Int)}
 (hm : ∀ w, C w → MapAt w B (letters l)) (ha : a.eval m = .map (some B)) (hx : a.eval x = .int .i32 r) {q : Option Int} (hl : Cases.look l r = q)
 (hK : K (a.put o.dst (match q with | some s => .tuple #[.int .i32 s, .bool true] | none => .tuple #[z, .bool false]))) : o.quiet P a C K := by
 cases q with
 | none =>
   refine ⟨_, fun w hw => ?_, hK⟩
   obtain ⟨es, c, hw2, hks, hm2⟩ := hm w hw
   obtain ⟨e, he, hfe⟩ := hm2 r
   have hr := run_lookup (P := P) (w := w) (t := t) (r := B) (es := es) (c := c) (key := .int .i32 r) true ht hk hw2 rfl (fun x hx => by obtain ⟨i, hi⟩ := hks x hx; rw [hi]; rfl) hi hz he
   unfold letters at hfe
   rw [hl] at hfe
   obtain rfl : e = none := hfe
   unfold Oper.quietAt
   simp [execOp, hop, ha, hx, hr, Oper.quietUpon]
 | some s =>
   refine ⟨_, fun w hw => ?_, hK⟩
   obtain ⟨es, c, hw2, hks, hm2⟩ := hm w hw
   obtain ⟨e, he, hfe⟩ := hm2 r
   have hr := run_lookup (P := P) (w := w) (t := t) (r := B) (es := es) (c := c) (key := .int .i32 r) true ht hk hw2 rfl (fun x hx => by obtain ⟨i, hi⟩ := hks x hx; rw [hi]; rfl) hi hz he
   unfold letters at hfe
   rw [hl] at hfe
   obtain ⟨e', rfl, hq⟩ := hfe
   have hq : e'.val = .int .i32 s := hq
   unfold Oper.quietAt
   simp [execOp, hop, ha, hx, hr, Oper.quietUpon, hq]
end
section
open Go.Shelf Go.RowKit Go.Lib Go.Proofs.YtnfghboholehdaaGreatDoor.Am
open Cases (smalls greats)
def TurnedPost (t : List UInt8) (W : World) (e : Ending) (w' : World) : Prop := e = .returned (.string ⟨(turnT t).toArray⟩) ∧ Below W.heap.size W w'
theorem map_mid (l : List Pc) (k : Nat) (h : k < l.length) (p : Pc) (hp : l.getD k pc0 = p) : (l.take (k + 1)).map turP = (l.take k).map turP ++ [turP p] := by
 rw [take_mid l k h, hp, List.map_append]
 rfl
theorem below_drewN {B : Nat} {W w : World} (h : Below B W w) (q : Nat) : Below B W (w.drewN q) := ⟨h.os, h.tape, h.output, h.size, h.block⟩
theorem mapAt_alloc {w : World} {B : Nat} {l : List (Int × Int)} (h : MapAt w B (letters l)) (o : Obj) : MapAt (w.alloc o) B (letters l) := by
 obtain ⟨es, c, hw, r⟩ := h
 exact ⟨es, c, (Below.heap_alloc w o B (heap_lt hw)).trans hw, r⟩
set_option maxHeartbeats 4000000 in
set_option maxRecDepth 100000 in
theorem Turned_ok (t : List UInt8) (W : World) (ho : OpensW W) (hT : Lib.Utf8Tabs 0 1 W) (hn : t.length ≤ 10000) : Calls Tryz.prog 22 #[.string ⟨t.toArray⟩] W (TurnedPost t W) := by
 have HT := Lib.hid hT; have HO := Lib.hid ho; have HN := Lib.hid hn; clear hT ho hn
 have HL := Lib.hid (pcs_len (encW 0 (finalF (runesOf t))) (encW_len 0 _) t t.length 0 0)
 have HTL := Lib.hid (turnT_len t)
 obtain ⟨l, hl⟩ : ∃ l, pcsOf 0 (finalF (runesOf t)) t = l := ⟨_, rfl⟩
 have HLL := Lib.hid (show l.length ≤ 10000 by rw [← hl]; exact Nat.le_trans HL.out.2 HN.out)
 have HCT := Lib.hid (show catP (l.map turP) = turnT t by rw [← hl]; exact catP_turned _ _)
 have HLE := Lib.hid hl; clear hl HL
 obtain ⟨n, hn⟩ : ∃ n, l.length = n := ⟨_, rfl⟩
 have HNN := Lib.hid hn; clear hn
 go_enter Tryz.func22, Tryz.ntmps22
 go_wp2_with (first
  | (go_at_call 28; refine HO.out.mono ?_; rintro e w1 ⟨v, rfl, h1, h2⟩; obtain ⟨B, o, rfl, _⟩ := id h1; have H1 := Lib.hid h1; have B1 := Lib.hid h2; clear h1 h2)
  | (go_at_call 29; refine (write_zero t (finalF (runesOf t)) _ _ (openW_P H1.out) (tabs_below B1.out HT.out) (Nat.le_trans HN.out (by decide)) (finals_ok _ (Nat.le_trans (runesOf_len t) (Nat.le_trans HN.out (by decide))) _ _ H1.out)).mono ?_; rintro e w2 ⟨v2, rfl, hown, h2⟩; rw [HLE.out, HNN.out] at hown; have B2 := Lib.hid h2; clear h2; obtain ⟨A2, c2, rfl, _⟩ := own_slice3 hown; have OW := Lib.hid hown; clear hown))
 have HNL := Lib.hid (show n ≤ 10000 by rw [← HNN.out]; exact HLL.out)
 clear HLL
 go_loopw [18] (fun vi wr => ∃ k : Nat, k ≤ n ∧ vi = .int .i64 k ∧ wr.ownsRow w1.heap.size 46 3 (.slice A2 n c2) n (piecesV ((l.take k).map turP ++ l.drop k)) ∧ Below w1.heap.size w1 wr) (fun vi _ => n - (RowKit.intOf vi).toNat)
 case atStart => exact ⟨0, Nat.zero_le _, rfl, OW.out, B2.out⟩
 case round =>
  obtain ⟨k, hk, rfl, hown, hb⟩ := hrel
  have HW := Lib.hid hown; have HB := Lib.hid hb; clear hown hb
  by_cases hlt : k < n
  ·have hlt2 : k < l.length := by rw [HNN.out]; exact hlt
   obtain ⟨g, rfl⟩ := own_some HW.out (by omega)
   obtain ⟨p, hp⟩ : ∃ p, l.getD k pc0 = p := ⟨_, rfl⟩
   have HMM := Lib.hid (map_mid l k hlt2 p hp)
   have hd := drop_mid l k hlt2
   rw [hp] at hd
   rw [hd] at HW
   clear hd hp hlt2
   obtain ⟨A, hA⟩ : ∃ A, (l.take k).map turP = A := ⟨_, rfl⟩
   obtain ⟨Bl, hBl⟩ : ∃ Bl, l.drop (k + 1) = Bl := ⟨_, rfl⟩
   have hAl : A.length = k := by rw [← hA, List.length_map, List.length_take]; have := HNN.out; omega
   rw [hA] at HW HMM
   rw [hBl] at HW
   have HBl := Lib.hid hBl
   clear hA hBl
   have HK := Lib.hid (RowK.mk HW.out hAl)
   clear hAl HW
   obtain ⟨k0, k1, k2, hfz, hg1, hg2⟩ := HK.out.cells hlt
   obtain ⟨pa, pr, px⟩ := p
   dsimp only at k0 k1 k2
   have hbook := openW_below H1.out HB.out
   obtain ⟨B', o', S, G, X, hv, c1, c2', c3, m1, m2, m3⟩ := openW_P hbook
   injection hv with hv
   injection hv with hv
   injection hv with hv1 hv2
   subst hv1 hv2
   clear c3 m3 hbook
   have hbl := cell_lt c1
   have HBA := Lib.hid (HB.out.alloc HB.out.size (.cells #[.int .i64 pa, .int .i32 pr, .string ⟨px.toArray⟩] 46))
   have M1 := Lib.hid (mapAt_alloc m1 (.cells #[.int .i64 pa, .int .i32 pr, .string ⟨px.toArray⟩] 46)); have M2 := Lib.hid (mapAt_alloc m2 (.cells #[.int .i64 pa, .int .i32 pr, .string ⟨px.toArray⟩] 46)); clear m1 m2
   obtain ⟨k', hk'⟩ : ∃ k', k + 1 = k' := ⟨_, rfl⟩
   have hwk : wrap64 ((k : Int) + 1) = (k' : Int) := by have := HNL.out; unfold wrap64; omega
   rw [hk'] at HMM HBl
   have HOK := Lib.hid (fun (X : List UInt8) (q : Nat) => (RowK.mk (own_drewN (own_alloc (o := .cells #[.int .i64 pa, .int .i32 pr, .string ⟨px.toArray⟩] 46) HK.out.own) q) HK.out.len).set X)
   clear HK
   cases hgr : Cases.look greats pr with
   | some gg =>
     have HGR := Lib.hid hgr; clear hgr
     go_wp2_with fail
     refine wp_region_quiet_lit (by kernel_rfl) (by kernel_rfl) ?_
     repeat (go_big_quiet_step (fail))
     refine BigFrame.wpQuiet_want (by kernel_rfl) (fun K hK => ?_)
     refine quiet_look _ _ 74 rfl Tryz.underlying74 Tryz.underlying21 rfl rfl (fun w hw => by obtain ⟨q, rfl⟩ := hw; exact M2.out) rfl rfl HGR.out (hK _ ?_)
     clear hK K
     (try simp only [Act.put]); (try simp only [List.setIfInBounds_toArray]); (try simp only [List.set_cons_succ]); (try simp only [List.set_cons_zero])
     repeat (go_big_quiet_step (fail))
     refine wpQuiet_nil ?_
     intro _ hw'
     obtain ⟨nq, hw''⟩ := hw'
     subst hw''
     go_wp2_with fail
     have hs : (⟨(turX pr px).toArray⟩ : ByteArray) = Utf8.encode gg := by unfold turX; rw [HGR.out] <;> exact enc_data gg
     have hh := HOK.out (turX pr px) nq
     rw [hs] at hh
     refine ⟨⟨k', by omega, by rw [hwk], ?_, Below.setCell (below_drewN HBA.out _) hg1 _⟩, by rw [hwk]; simp [RowKit.intOf]; omega⟩
     rw [HMM.out, HBl.out]
     exact hh
   | none =>
     have HGR := Lib.hid hgr; clear hgr
     go_wp2_with fail
     refine wp_region_quiet_lit (by kernel_rfl) (by kernel_rfl) ?_
     repeat (go_big_quiet_step (fail))
     refine BigFrame.wpQuiet_want (by kernel_rfl) (fun K hK => ?_)
     refine quiet_look _ _ 74 rfl Tryz.underlying74 Tryz.underlying21 rfl rfl (fun w hw => by obtain ⟨q, rfl⟩ := hw; exact M2.out) rfl rfl HGR.out (hK _ ?_)
     clear hK K
     (try simp only [Act.put]); (try simp only [List.setIfInBounds_toArray]); (try simp only [List.set_cons_succ]); (try simp only [List.set_cons_zero])
     repeat (go_big_quiet_step (fail))
     refine wpQuiet_nil ?_
     intro _ hw'
     obtain ⟨nq, hw''⟩ := hw'
     subst hw''
     cases hsm : Cases.look smalls pr with
     | some ss =>
       have HSM := Lib.hid hsm; clear hsm
       go_wp2_with fail
       refine wp_region_quiet_lit (by kernel_rfl) (by kernel_rfl) ?_
       repeat (go_big_quiet_step (fail))
       refine BigFrame.wpQuiet_want (by kernel_rfl) (fun K hK => ?_)
       refine quiet_look _ _ 74 rfl Tryz.underlying74 Tryz.underlying21 rfl rfl (fun w hw => by obtain ⟨q, rfl⟩ := hw; exact M1.out) rfl rfl HSM.out (hK _ ?_)
       clear hK K
       (try simp only [Act.put]); (try simp only [List.setIfInBounds_toArray]); (try simp only [List.set_cons_succ]); (try simp only [List.set_cons_zero])
       repeat (go_big_quiet_step (fail))
       refine wpQuiet_nil ?_
       intro _ hw'
       obtain ⟨nq2, hw''⟩ := hw'
       subst hw''
       go_wp2_with fail
       have hs : (⟨(turX pr px).toArray⟩ : ByteArray) = Utf8.encode ss := by unfold turX; rw [HGR.out, HSM.out] <;> exact enc_data ss
       have hh := HOK.out (turX pr px) (nq + nq2)
       rw [hs] at hh
       refine ⟨⟨k', by omega, by rw [hwk], ?_, Below.setCell (below_drewN HBA.out _) hg1 _⟩, by rw [hwk]; simp [RowKit.intOf]; omega⟩
       rw [HMM.out, HBl.out]
       exact hh
     | none =>
       have HSM := Lib.hid hsm; clear hsm
       go_wp2_with fail
       refine wp_region_quiet_lit (by kernel_rfl) (by kernel_rfl) ?_
       repeat (go_big_quiet_step (fail))
       refine BigFrame.wpQuiet_want (by kernel_rfl) (fun K hK => ?_)
       refine quiet_look _ _ 74 rfl Tryz.underlying74 Tryz.underlying21 rfl rfl (fun w hw => by obtain ⟨q, rfl⟩ := hw; exact M1.out) rfl rfl HSM.out (hK _ ?_)
       clear hK K
       (try simp only [Act.put]); (try simp only [List.setIfInBounds_toArray]); (try simp only [List.set_cons_succ]); (try simp only [List.set_cons_zero])
       repeat (go_big_quiet_step (fail))
       refine wpQuiet_nil ?_
       intro _ hw'
       obtain ⟨nq2, hw''⟩ := hw'
       subst hw''
       by_cases h5 : (pr : Int) = 65533
       ·have hb5 : ((pr : Int) == 65533) = true := by simp [h5]
        have H5 := Lib.hid h5; clear h5
        go_wp2_with fail
        have hs : (⟨(turX pr px).toArray⟩ : ByteArray) = ⟨px.toArray⟩ := by unfold turX; rw [HGR.out, HSM.out]; dsimp only; rw [if_pos H5.out]
        have hh := HOK.out (turX pr px) (nq + nq2)
        rw [hs] at hh
        refine ⟨⟨k', by omega, by rw [hwk], ?_, Below.setCell (below_drewN HBA.out _) hg1 _⟩, by rw [hwk]; simp [RowKit.intOf]; omega⟩
        rw [HMM.out, HBl.out]
        exact hh
       ·have hb5 : ((pr : Int) == 65533) = false := by simp [h5]
        have H5 := Lib.hid h5; clear h5
        go_wp2_with fail
        have hs : (⟨(turX pr px).toArray⟩ : ByteArray) = Utf8.encode pr := by unfold turX; rw [HGR.out, HSM.out]; dsimp only; rw [if_neg H5.out] <;> exact enc_data pr
        have hh := HOK.out (turX pr px) (nq + nq2)
        rw [hs] at hh
        refine ⟨⟨k', by omega, by rw [hwk], ?_, Below.setCell (below_drewN HBA.out _) hg1 _⟩, by rw [hwk]; simp [RowKit.intOf]; omega⟩
        rw [HMM.out, HBl.out]
        exact hh
  ·obtain rfl : k = n := by omega
   have htk : (l.take k).map turP ++ l.drop k = l.map turP := by rw [← HNN.out, List.take_length, List.drop_length, List.append_nil]
   rw [htk] at HW
   have hlm : (l.map turP).length = k := by rw [List.length_map]; exact HNN.out
   have HJ := Lib.hid (joined_ok (l.map turP) (.slice A2 k c2) w1.heap.size wr (by rw [hlm]; exact HW.out) (by rw [hlm]; have := HNL.out; omega) (by rw [HCT.out]; have := HTL.out; have := HN.out; omega))
   clear htk hlm
   go_wp2_with (go_at_call 35; refine HJ.out.mono ?_; rintro e w3 ⟨rfl, h3⟩; have B3 := Lib.hid (HB.out.trans (h3.mono HB.out.size)); clear h3)
   go_ret
   exact ⟨by rw [HCT.out]; rfl, B1.out.trans (B3.out.mono B1.out.size)⟩
end
section
open Go.Shelf Go.RowKit Go.Lib Go.Proofs.YtnfghboholehdaaGreatDoor.Am
theorem isNaNc_ok (x : Int) (w : World) : Calls Tryz.prog 103 #[.int .i64 x] w fun e w' => e = .returned (.bool false) ∧ w' = w := by
 go_enter Tryz.func103, Tryz.ntmps103
 go_wp2
 go_ret
 exact ⟨by simp, rfl⟩
theorem isNaNs_ok (x : Int) (w : World) : Calls Tryz.prog 66 #[.int .i64 x] w fun e w' => e = .returned (.bool false) ∧ w' = w := by
 go_enter Tryz.func66, Tryz.ntmps66
 go_wp2
 go_ret
 exact ⟨by simp, rfl⟩
theorem Less_ok (x y : Int) (w : World) : Calls Tryz.prog 65 #[.int .i64 x, .int .i64 y] w fun e w' => e = .returned (.bool (decide (x < y))) ∧ w' = w := by
 go_enter Tryz.func65, Tryz.ntmps65
 go_wp2_with (go_at_call 103; refine (isNaNc_ok _ _).mono ?_; rintro e w' ⟨rfl, rfl⟩)
 go_ret
 exact ⟨rfl, rfl⟩
/-- ints, in memory -/
structure IntsR (w : World) (A : Option Addr) (n : Nat) (zs : List Int) : Prop where
 len : zs.length = n
 small : n ≤ 100000
 at_ : 0 < n → ∃ g o, A = some ⟨g, o, none⟩ ∧ g < w.heap.size ∧ ∀ j, j < n → w.cell? ⟨g, o + j, none⟩ = some (.int .i64 (zs.getD j 0))
def BsPost (W : World) (e : Ending) (w' : World) : Prop := ∃ (m : Int) (b : Bool), e = .returned (.tuple #[.int .i64 m, .bool b]) ∧ Below W.heap.size W w'
set_option maxHeartbeats 4000000 in
set_option maxRecDepth 100000 in
theorem Bs_ok (zs : List Int) (x : Int) (A : Option Addr) (n c : Nat) (W : World) (h : IntsR W A n zs) :
 Calls Tryz.prog 31 #[.slice A n c, .int .i64 x] W (BsPost W) := by
 have hsm := h.small
 have HC := Lib.hid h; clear h
 go_enter Tryz.func31, Tryz.ntmps31
 go_wp2
 go_loopw [7, 8] (fun s7 s8 wr => ∃ lo hi : Nat, s7 = .int .i64 lo ∧ s8 = .int .i64 hi ∧ lo ≤ hi ∧ hi ≤ n ∧ Below W.heap.size W wr) (fun a b _ => (RowKit.intOf b - RowKit.intOf a).toNat)
 case atStart => exact ⟨0, n, rfl, rfl, Nat.zero_le _, Nat.le_refl _, Below.refl _ _⟩
 case round =>
  obtain ⟨lo, hi, rfl, rfl, hlh, hin, hb⟩ := hrel
  have HB := Lib.hid hb; clear hb
  by_cases hlt : lo < hi
  ·obtain ⟨g, o, rfl, hgl, hcell⟩ := HC.out.at_ (by omega)
   have cm : wr.cell? ⟨g, o + (lo + hi) / 2, none⟩ = some (.int .i64 (zs.getD ((lo + hi) / 2) 0)) := (HB.out.cell (p := ⟨g, o + (lo + hi) / 2, none⟩) hgl).trans (hcell _ (by omega))
   clear hcell
   obtain ⟨y, hy⟩ : ∃ y, zs.getD ((lo + hi) / 2) 0 = y := ⟨_, rfl⟩
   rw [hy] at cm
   clear hy
   by_cases hyx : y < x
   ·go_wp2_with (first | (go_at_call 65; refine (Less_ok _ _ _).mono ?_; rintro e w' ⟨rfl, rfl⟩) | (go_at_call 66; refine (isNaNs_ok _ _).mono ?_; rintro e w' ⟨rfl, rfl⟩))
    go_roundw
    case rel => exact ⟨(lo + hi) / 2 + 1, hi, by rw [show ((lo : Int) + (hi : Int)) / 2 + 1 = (((lo + hi) / 2 + 1 : Nat) : Int) by omega], rfl, by omega, hin, HB.out⟩
    case measure => simp [RowKit.intOf]; omega
   ·go_wp2_with (first | (go_at_call 65; refine (Less_ok _ _ _).mono ?_; rintro e w' ⟨rfl, rfl⟩) | (go_at_call 66; refine (isNaNs_ok _ _).mono ?_; rintro e w' ⟨rfl, rfl⟩))
    go_roundw
    case rel => exact ⟨lo, (lo + hi) / 2, rfl, by rw [show ((lo : Int) + (hi : Int)) / 2 = (((lo + hi) / 2 : Nat) : Int) by omega], by omega, by omega, HB.out⟩
    case measure => simp [RowKit.intOf]; omega
  ·have : hi = lo := by omega
   subst this
   by_cases hn : hi < n
   ·obtain ⟨g, o, rfl, hgl, hcell⟩ := HC.out.at_ (by omega)
    have cl : wr.cell? ⟨g, o + hi, none⟩ = some (.int .i64 (zs.getD hi 0)) := (HB.out.cell (p := ⟨g, o + hi, none⟩) hgl).trans (hcell _ hn)
    clear hcell
    obtain ⟨y, hy⟩ : ∃ y, zs.getD hi 0 = y := ⟨_, rfl⟩
    rw [hy] at cl
    clear hy
    by_cases hyx : y = x
    ·go_wp2_with (first | (go_at_call 65; refine (Less_ok _ _ _).mono ?_; rintro e w' ⟨rfl, rfl⟩) | (go_at_call 66; refine (isNaNs_ok _ _).mono ?_; rintro e w' ⟨rfl, rfl⟩))
     go_ret2
     exact ⟨_, _, rfl, HB.out⟩
    ·go_wp2_with (first | (go_at_call 65; refine (Less_ok _ _ _).mono ?_; rintro e w' ⟨rfl, rfl⟩) | (go_at_call 66; refine (isNaNs_ok _ _).mono ?_; rintro e w' ⟨rfl, rfl⟩))
     go_ret2
     exact ⟨_, _, rfl, HB.out⟩
   ·go_wp2_with (first | (go_at_call 65; refine (Less_ok _ _ _).mono ?_; rintro e w' ⟨rfl, rfl⟩) | (go_at_call 66; refine (isNaNs_ok _ _).mono ?_; rintro e w' ⟨rfl, rfl⟩))
    go_ret2
    exact ⟨_, _, rfl, HB.out⟩
end
section
open Go.Shelf Go.RowKit Go.Lib Go.Proofs.YtnfghboholehdaaGreatDoor.Am
def PlPost (W : World) (e : Ending) (w' : World) : Prop := e = .returned (.bool true) ∧ Below W.heap.size W w'
set_option maxRecDepth 100000 in
set_option maxHeartbeats 2000000 in
theorem Places_ok (zs : List Int) (A A' : Option Addr) (n c c' : Nat) (W : World) (h1 : IntsR W A n zs) (h2 : IntsR W A' n zs) : Calls Tryz.prog 21 #[.slice A n c, .slice A' n c'] W (PlPost W) := by
 have hsm := h1.small
 have H1 := Lib.hid h1; have H2 := Lib.hid h2; clear h1 h2
 go_enter Tryz.func21, Tryz.ntmps21
 go_wp2
 go_loopw [5] (fun vi wq => ∃ k q : Nat, k ≤ n ∧ vi = .int .i64 k ∧ wq = W.drewN q) (fun vi _ => n - (RowKit.intOf vi).toNat)
 case atStart => exact ⟨0, 0, Nat.zero_le _, rfl, rfl⟩
 case round =>
  obtain ⟨k, q, hk, rfl, rfl⟩ := hrel
  by_cases hlt : k < n
  ·obtain ⟨g, o, rfl, hg, hc⟩ := H1.out.at_ (by omega)
   obtain ⟨g', o', rfl, hg', hc'⟩ := H2.out.at_ (by omega)
   have d := hc k hlt
   have d' := hc' k hlt
   obtain ⟨x, hx⟩ : ∃ x, zs.getD k 0 = x := ⟨_, rfl⟩
   rw [hx] at d d'
   clear hc hc' hx hg hg'
   go_wp2_with fail
   go_quiet (fail)
   go_wp2_with fail
   go_roundw
   case rel => exact ⟨k + 1, _, hlt, by go_num, rfl⟩
   case measure => simp [RowKit.intOf]; omega
  ·obtain rfl : k = n := by omega
   go_wp2_with fail
   go_ret
   exact ⟨rfl, rfl, rfl, rfl, Nat.le_refl _, fun _ _ => rfl⟩
end
section
open Go.Shelf Go.RowKit Go.Lib Go.Proofs.YtnfghboholehdaaGreatDoor.Am
open Folds (dec dec_pos dec_le)
/-- of each byte the place of its piece -/
def atP (p : Pc) : List Int := List.replicate p.2.2.length (p.1 : Int)
theorem pcs_at (k : Nat) (hk : k ≠ 0) (fin : Nat → Bool) (t : List UInt8) : ∀ n i e, (pcs (encW k fin) t n i e).flatMap atP = (mk4 t n e).flatMap (atM k t)
 | 0, _, _ => rfl
 | n + 1, i, e => by
   show (if e < t.length then _ else _ : List Pc).flatMap _ = (if e < t.length then _ else _ : List Mk).flatMap _
   split
   ·rw [List.flatMap_cons, List.flatMap_cons, pcs_at k hk fin t n]
    congr 1
    unfold atP atM txtM Folds.one encW
    dsimp only
    by_cases h : (dec (t.drop e)).1 = 65533 ∧ (dec (t.drop e)).2 = 1
    ·rw [if_pos h, if_pos (by rw [h.1, h.2]; rfl), h.2]
    ·rw [if_neg h, if_neg (fun h => hk h.1.1), if_neg (by
      intro hb
      rw [Bool.and_eq_true, beq_iff_eq, beq_iff_eq] at hb
      exact h ⟨by omega, by omega⟩)]
   ·rfl
theorem pcsOf_at (k : Nat) (hk : k ≠ 0) (fin : Nat → Bool) (t : List UInt8) : (pcsOf k fin t).flatMap atP = (mk4s t).flatMap (atM k t) := pcs_at k hk fin t t.length 0 0
theorem take_pc (l : List Pc) {i : Nat} (h : i < l.length) : l.take (i + 1) = l.take i ++ [l.getD i pc0] := by
 rw [List.take_add_one, List.getD_eq_getElem?_getD, List.getElem?_eq_getElem h]
 rfl
theorem own_ne3 {w : World} {g base n : Nat} {v : Value} {xs : List Value} {o : Obj} (h : w.ownsRow base 3 1 v n xs) (hg : w.heap[g]? = some o) (ho : ∀ cur, o ≠ .cells cur 3 (0, 0)) : some g ≠ v.ownBlock := by
 intro hk
 obtain ⟨_, _, cur, hcur⟩ := own_lt h hk.symm
 rw [hg] at hcur
 exact ho cur (Option.some.inj hcur)
theorem blk_kept {w wp : World} {base n : Nat} {v : Value} {xs : List Value} {o : Obj} {g : Nat} {cs : Array Value} (hl : g < w.heap.size) (h : w.ownsRow base 3 1 v n xs) (hb : w.heap[g]? = some (.cells cs 46 (0, 0))) (hg : (w.alloc o).grownBy wp v.ownBlock) : (wp.heap[g]? = some (.cells cs 46 (0, 0))) := by
 have hk : (w.alloc o).heap[g]? = some (.cells cs 46 (0, 0)) := (Below.heap_alloc w o g hl).trans hb
 refine (hg.block g ?_ ?_).trans hk
 ·rw [World.size_alloc]; exact Nat.lt_succ_of_lt hl
 ·exact own_ne3 (own_alloc h) hk (fun _ h => by injection h with _ h; exact absurd h (by decide))
def FoldedPost (t : List UInt8) (W : World) (e : Ending) (w' : World) : Prop := ∃ v, e = .returned (.tuple #[.string ⟨(wr 3 t).toArray⟩, v]) ∧ w'.ownsRow W.heap.size 3 1 v ((mk4s t).flatMap (atM 3 t)).length (intsW ((mk4s t).flatMap (atM 3 t))) ∧ Below W.heap.size W w'
theorem catP_len_at (l : List Pc) : (l.flatMap atP).length = (catP l).length := by
 unfold catP
 simp [List.length_flatMap, atP]
set_option maxRecDepth 100000 in
set_option maxHeartbeats 4000000 in
theorem Folded_ok (t : List UInt8) (W : World) (ho : OpensP W) (hT : Lib.Utf8Tabs 0 1 W) (hn : t.length ≤ 10000) : Calls Tryz.prog 17 #[.string ⟨t.toArray⟩] W (FoldedPost t W) := by
 have HT := Lib.hid hT; have HO := Lib.hid ho; have HN := Lib.hid hn; clear hT ho hn
 have HL := Lib.hid (pcs_len (encW 3 fun _ => false) (encW_len 3 _) t t.length 0 0)
 obtain ⟨P, hP⟩ : ∃ P, pcsOf 3 (fun _ => false) t = P := ⟨_, rfl⟩
 have HPL := Lib.hid (show (catP P).length ≤ 120000 ∧ P.length ≤ 10000 by rw [← hP]; have := HN.out; exact ⟨Nat.le_trans HL.out.1 (by omega), Nat.le_trans HL.out.2 (by omega)⟩)
 have HCP := Lib.hid (show catP P = wr 3 t by rw [← hP]; exact catP_wr 3 (by decide) _ t)
 have HAP := Lib.hid (show P.flatMap atP = (mk4s t).flatMap (atM 3 t) by rw [← hP]; exact pcsOf_at 3 (by decide) _ t)
 have HPQ := Lib.hid hP; clear hP HL
 obtain ⟨n, hn⟩ : ∃ n, P.length = n := ⟨_, rfl⟩
 have HNN := Lib.hid hn; clear hn
 have HN4 := Lib.hid (show n ≤ 10000 by rw [← HNN.out]; exact HPL.out.2)
 obtain ⟨i0, hI0, hz0, hz1, hz2⟩ := info_parts int_info
 go_enter Tryz.func17, Tryz.ntmps17
 go_wp2_with (first
  | (go_at_call 28; refine HO.out.mono ?_; rintro e w1 ⟨v, rfl, h1, h2⟩; have H1 := Lib.hid h1; have B1 := Lib.hid h2; clear h1 h2)
  | (go_at_call 29; refine (write_pos t 3 (by decide) (by decide) (fun _ => false) _ _ H1.out (tabs_below B1.out HT.out) (Nat.le_trans HN.out (by decide))).mono ?_; rintro e w2 ⟨v2, rfl, hown, h2⟩; rw [HPQ.out, HNN.out] at hown; obtain ⟨A2, c2, rfl, _⟩ := own_slice3 hown; have OS := Lib.hid hown; have B2 := Lib.hid (B1.out.trans (h2.mono B1.out.size)); clear hown h2))
 go_loopw [5, 13] (fun va vi wq => ∃ (k m c : Nat) (A : Option Addr), k ≤ n ∧ vi = .int .i64 k ∧ va = .slice A m c ∧ ((P.take k).flatMap atP).length = m ∧ BWL W w2 (.slice A m c) ((P.take k).flatMap atP) wq) (fun _ vi _ => n - (RowKit.intOf vi).toNat)
 case atStart => exact ⟨0, 0, 0, none, Nat.zero_le _, rfl, rfl, rfl, Below.refl _ _, ⟨rfl, .inl ⟨rfl, rfl⟩⟩⟩
 case round =>
  obtain ⟨k, m, c, A, hk, rfl, rfl, hm, hbw⟩ := hrel
  have HW := Lib.hid hbw; have HM := Lib.hid hm; clear hbw hm
  have hn4 := HN4.out
  by_cases hlt : k < n
  ·obtain ⟨g, rfl⟩ := own_some OS.out (by omega)
   have hg1 := (own_lt OS.out (g := g) rfl).2.1
   have hc := World.ownsRow.cells (g := g) OS.out rfl
   have hkl : k < P.length := by rw [HNN.out]; exact hlt
   obtain ⟨f0, f1, f2⟩ := piecesV_get P k hkl
   have c0 := hc _ _ f0; have c1 := hc _ _ f1; have c2 := hc _ _ f2
   rw [add_none, Nat.zero_add] at c0 c1 c2
   have HTK := Lib.hid (take_pc P hkl)
   obtain ⟨p, hp⟩ : ∃ p, P.getD k pc0 = p := ⟨_, rfl⟩
   rw [hp] at c0 c1 c2 HTK
   have hcl := catP_le P (k + 1)
   obtain ⟨pa, pr, px⟩ := p
   dsimp only at c0 c1 c2
   have d0 : wr.cell? ⟨g, k * 3, none⟩ = some (.int .i64 pa) := (HW.out.bel.cell (p := ⟨g, k * 3, none⟩) hg1).trans c0
   have d1 : wr.cell? ⟨g, k * 3 + 1, none⟩ = some (.int .i32 pr) := (HW.out.bel.cell (p := ⟨g, k * 3 + 1, none⟩) hg1).trans c1
   have d2 : wr.cell? ⟨g, k * 3 + 2, none⟩ = some (.string ⟨px.toArray⟩) := (HW.out.bel.cell (p := ⟨g, k * 3 + 2, none⟩) hg1).trans c2
   obtain ⟨al, hal⟩ : ∃ al, (P.take k).flatMap atP = al := ⟨_, rfl⟩
   have HAL := Lib.hid (show (P.take (k + 1)).flatMap atP = al ++ List.replicate px.length (pa : Int) by rw [HTK.out, List.flatMap_append, hal, List.flatMap_singleton]; rfl)
   have hlen : al.length + px.length ≤ 120000 := by
    have h1 := catP_len_at (P.take (k + 1))
    rw [HAL.out, List.length_append, List.length_replicate] at h1
    have := HPL.out.1
    omega
   rw [hal] at HM HW
   clear hal
   obtain ⟨PX, hPX⟩ : ∃ PX : ByteArray, (⟨px.toArray⟩ : ByteArray) = PX := ⟨_, rfl⟩
   rw [hPX] at d2
   have hps : PX.size = px.length := size_mk _ _ hPX
   obtain ⟨XN, hXN⟩ : ∃ XN, px.length = XN := ⟨_, rfl⟩
   rw [hXN] at hps hlen HAL
   have HPS := Lib.hid hps; have HLN := Lib.hid hlen
   have HW0 := Lib.hid (HW.out.below ((Below.refl _ wr).alloc (Nat.le_refl _) (.cells #[.int .i64 pa, .int .i32 pr, .string PX] 46)))
   clear hc f0 f1 f2 c0 c1 c2 hkl hp hcl hPX hps hlen hXN hg1
   have HBK := Lib.hid (heap_alloc_new wr (.cells #[.int .i64 pa, .int .i32 pr, .string PX] 46))
   obtain ⟨bk, hbk⟩ : ∃ bk, wr.heap.size = bk := ⟨_, rfl⟩
   have hxs0 := HPS.out
   go_wp2_with fail
   rw [hbk] at HBK
   try rw [hbk]
   try rw [hxs0]
   clear hbk d0 d1 d2 hxs0
   go_loopw [5, 20] (fun va vn wq => ∃ (j m' c' : Nat) (A' : Option Addr), j ≤ XN ∧ vn = .int .i64 j ∧ va = .slice A' m' c' ∧ (al ++ List.replicate j (pa : Int)).length = m' ∧ BWL W w2 (.slice A' m' c') (al ++ List.replicate j (pa : Int)) wq ∧ wq.heap[bk]? = some (.cells #[.int .i64 pa, .int .i32 pr, .string PX] 46 (0, 0))) (fun _ vn _ => XN - (RowKit.intOf vn).toNat)
   case atStart => exact ⟨0, m, c, A, Nat.zero_le _, rfl, rfl, by rw [List.replicate_zero, List.append_nil]; exact HM.out, by rw [List.replicate_zero, List.append_nil]; exact HW0.out, HBK.out⟩
   case round =>
    obtain ⟨j, m', c', A', hj, rfl, rfl, hjm, hjw, hjb⟩ := hrel
    have HJ := Lib.hid hjw; have HJM := Lib.hid hjm; have HJB := Lib.hid hjb
    have HOJ := Lib.hid (show wr.ownsRow w2.heap.size 3 1 (.slice A' m' c') m' (intsW (al ++ List.replicate j (pa : Int))) by have := hjw.own; rwa [hjm] at this)
    have HLJ := Lib.hid (show m' + 1 ≤ maxLen ∧ (m' + 1) * 8 ≤ 140737488355328 by rw [List.length_append, List.length_replicate] at hjm; have := HLN.out; exact ⟨by simp only [maxLen]; omega, by omega⟩)
    have d0 := cell_of_row wr bk 0 _ _ _ hjb
    have hbl := heap_lt hjb
    have hxs := HPS.out
    have hxn := HLN.out
    clear hjw hjm hjb
    by_cases hlt2 : j < XN
    ·go_wp2_with (at_builtin; refine wpList_app _ rfl (.tmp 22) (.tmp 25) 30 rfl w2.heap.size 3 i0 _ 8 Tryz.underlying30 hI0 hz0 hz1 hz2 rfl (.slice A' m' c') m' (intsW (al ++ List.replicate j (pa : Int))) rfl (own_alloc HOJ.out) _ 1 1 [.int .i64 (pa : Int)] rfl (src_one _ _ _) (by simp [Value.oneCell']) HLJ.out.1 HLJ.out.2 (by rw [World.size_alloc]; have := HJ.out.bel.size; omega) ?_; intro v' wp ho hg hn; obtain ⟨A3, d3, rfl, _⟩ := own_slice3 ho; have HJG := Lib.hid (HJ.out.grown HJM.out ho hg); have HJ2 := Lib.hid (blk_kept hbl HOJ.out HJB.out hg); clear ho hg hn)
     go_roundw
     case rel => exact ⟨j + 1, m' + 1, d3, A3, hlt2, by go_num, rfl, by rw [List.replicate_succ', ← List.append_assoc, List.length_append, HJM.out]; rfl, by rw [List.replicate_succ', ← List.append_assoc]; exact HJG.out, HJ2.out⟩
     case measure => simp [RowKit.intOf]; omega
    ·obtain rfl : j = XN := by omega
     go_wp2_with fail
     go_roundw
     case rel => exact ⟨k + 1, m', c', A', hlt, by go_num, rfl, by rw [HAL.out]; exact HJM.out, by rw [HAL.out]; exact HJ.out⟩
     case measure => simp [RowKit.intOf]; omega
  ·obtain rfl : k = n := by omega
   have htk : P.take k = P := List.take_of_length_le (by rw [HNN.out]; exact Nat.le_refl _)
   rw [htk] at HM HW
   clear htk
   have HJ := Lib.hid (joined_ok P (.slice A2 k c2) w1.heap.size wr (by rw [HNN.out]; exact own_below (HW.out.bel) OS.out) (by have := HPL.out.2; omega) (by have := HPL.out.1; omega))
   go_wp2_with (go_at_call 35; refine HJ.out.mono ?_; rintro e w9 ⟨rfl, h9⟩; rw [HCP.out]; have HW9 := Lib.hid (HW.out.below h9); clear h9)
   go_ret2
   have h1 := HW9.out.own
   refine ⟨.slice A m c, rfl, ?_, B2.out.trans (HW9.out.bel.mono B2.out.size)⟩
   rw [← HAP.out]
   exact own_base h1 (fun g hg => Nat.le_trans B2.out.size (own_lt h1 hg).1)
end
section
open Go.Shelf Go.RowKit Go.Lib Go.Proofs.YtnfghboholehdaaGreatDoor.Am
open Folds (dec dec_pos dec_le)
/-- what stands in the place of a mark -/
def txtE (enc : Nat → List UInt8) (t : List UInt8) (m : Mk) : List UInt8 := if m.2.2.2 = true then (t.drop m.1).take m.2.1 else enc m.2.2.1
theorem flat_mkE (enc : Nat → List UInt8) (t : List UInt8) : ∀ n e, (mk4 t n e).flatMap (txtE enc t) = Folds.out enc n (t.drop e)
 | 0, _ => rfl
 | n + 1, e => by
   show (if e < t.length then _ else _ : List Mk).flatMap _ = (if t.drop e = [] then _ else _)
   by_cases c : e < t.length
   ·have hne : t.drop e ≠ [] := by intro d; rw [List.drop_eq_nil_iff] at d; omega
    rw [if_pos c, if_neg hne, List.drop_drop, List.flatMap_cons, flat_mkE enc t n]
    congr 1
    unfold txtE Folds.one
    dsimp only
    by_cases h : (dec (t.drop e)).1 = 65533 ∧ (dec (t.drop e)).2 = 1
    ·rw [if_pos h, if_pos (by rw [h.1, h.2]; rfl), h.2]
    ·rw [if_neg h, if_neg (by
      intro hb
      rw [Bool.and_eq_true, beq_iff_eq, beq_iff_eq] at hb
      exact h ⟨by omega, by omega⟩)]
   ·rw [if_neg c, if_pos (by rw [List.drop_eq_nil_iff]; omega)]
    rfl
theorem turnT_mk (t : List UInt8) : (mk4s t).flatMap (txtE encTurn t) = turnT t := by
 unfold mk4s turnT
 rw [flat_mkE, catP_pcs (fun _ => encTurn) encTurn (fun _ _ => rfl), List.drop_zero]
theorem mk4_bad (t : List UInt8) : ∀ n e, ∀ m ∈ mk4 t n e, m.2.2.2 = true → m.2.1 = 1
 | 0, _, m, h, _ => by cases h
 | n + 1, e, m, h, hb => by
   unfold mk4 at h
   by_cases c : e < t.length
   ·rw [if_pos c] at h
    rcases List.mem_cons.1 h with rfl | h
    ·dsimp only at hb ⊢
     rw [Bool.and_eq_true, beq_iff_eq] at hb
     omega
    ·exact mk4_bad t n _ m h hb
   ·rw [if_neg c] at h; cases h
theorem turn_doc (r : Int) : turn r = if (Cases.docPair r).1 = r then (Cases.docPair r).2 else (Cases.docPair r).1 := by
 rw [← Cases.pair_doc]
 unfold turn Cases.pair
 cases hs : Cases.look Cases.smalls r with
 | some s =>
   have ho := small_okp hs
   rw [ho.b]
   dsimp only
   by_cases c : s = r
   ·subst c
    have := ho.c
    rw [ho.b] at this
    cases this
   ·rw [if_neg c]
 | none =>
   cases hg : Cases.look Cases.greats r with
   | some g =>
     dsimp only
     rw [if_pos rfl]
   | none =>
     dsimp only
     rw [if_pos rfl]
theorem txtE_len (t : List UInt8) (m : Mk) (h : m.2.1 ≤ 4) : (txtE encTurn t m).length ≤ 4 := by
 unfold txtE
 split
 ·rw [List.length_take]; omega
 ·show (Utf8.encode (turn m.2.2.1)).data.toList.length ≤ 4
  unfold Utf8.encode
  dsimp only
  repeat' split
  all_goals simp
theorem flat_len (t : List UInt8) (M : List Mk) (h : ∀ m ∈ M, m.2.1 ≤ 4) : (M.flatMap (txtE encTurn t)).length ≤ 4 * M.length := by
 induction M with
 | nil => exact Nat.zero_le _
 | cons a M ih =>
   rw [List.flatMap_cons, List.length_append, List.length_cons]
   have h1 := ih (fun m hm => h m (List.mem_cons_of_mem _ hm))
   have h2 := txtE_len t a (h a List.mem_cons_self)
   omega
theorem below_drewN' {B : Nat} {W w : World} (h : Below B W w) (q : Nat) : Below B W (w.drewN q) := ⟨h.os, h.tape, h.output, h.size, h.block⟩
def BTurnedPost (t : List UInt8) (W : World) (e : Ending) (w' : World) : Prop := e = .returned (.string ⟨(turnT t).toArray⟩) ∧ Below W.heap.size W w'
set_option maxRecDepth 100000 in
set_option maxHeartbeats 4000000 in
theorem BTurned_ok (t : List UInt8) (v : Value) (W : World) (h : BookP W v) (hn : t.length ≤ 10000) : Calls Tryz.prog 23 #[v, .string ⟨t.toArray⟩] W (BTurnedPost t W) := by
 obtain ⟨B, o, rfl⟩ : ∃ B o, v = .pointer (some ⟨B, o, none⟩) := by obtain ⟨_, B, o, _, _, _, rfl, _⟩ := h; exact ⟨B, o, rfl⟩
 have HMK := Lib.hid (Marks_ok t W (by omega))
 obtain ⟨s, hs⟩ : ∃ s : ByteArray, (⟨t.toArray⟩ : ByteArray) = s := ⟨_, rfl⟩
 have hss : s.size = t.length := size_mk t s hs
 rw [hs] at HMK ⊢
 have HS := Lib.hid hs; have HSS := Lib.hid hss; have HB := Lib.hid h; have HN := Lib.hid hn
 obtain ⟨M, hM⟩ : ∃ M, mk4s t = M := ⟨_, rfl⟩
 have HML := Lib.hid (show M.length ≤ 10000 by rw [← hM]; exact Nat.le_trans (mk4_len t t.length 0) hn)
 have HMM := Lib.hid (show ∀ m ∈ M, m.1 + m.2.1 ≤ t.length ∧ 1 ≤ m.2.1 ∧ isR (m.2.2.1 : Int) = true by rw [← hM]; exact mk4_mem t t.length 0)
 have HMW := Lib.hid (show ∀ m ∈ M, m.2.1 ≤ 4 by rw [← hM]; exact mk4_wid t t.length 0)
 have HMB := Lib.hid (show ∀ m ∈ M, m.2.2.2 = true → m.2.1 = 1 by rw [← hM]; exact mk4_bad t t.length 0)
 have HWR := Lib.hid (show M.flatMap (txtE encTurn t) = turnT t by rw [← hM]; exact turnT_mk t)
 have HMQ := Lib.hid hM
 clear hs hss h hn hM
 go_enter Tryz.func23, Tryz.ntmps23
 go_wp2_with (go_at_call 41; refine HMK.out.mono ?_; rintro e w1 ⟨vm, rfl, hown, hb⟩; rw [HMQ.out] at hown; obtain ⟨Am, cm, rfl, _⟩ := own_slice3 hown; have HOM := Lib.hid hown; have HB1 := Lib.hid hb; clear hown hb)
 obtain ⟨N, hN⟩ : ∃ N, M.length = N := ⟨_, rfl⟩
 rw [hN] at HOM HML ⊢
 have HNN := Lib.hid hN; clear hN
 go_loopw [6, 7] (fun vo vi wq => ∃ i : Nat, i ≤ N ∧ vi = .int .i64 i ∧ vo = .string ⟨((M.take i).flatMap (txtE encTurn t)).toArray⟩ ∧ Below w1.heap.size w1 wq) (fun _ vi _ => N - (RowKit.intOf vi).toNat)
 case atStart => exact ⟨0, Nat.zero_le _, rfl, rfl, Below.refl _ _⟩
 case round =>
  obtain ⟨i, hi, rfl, rfl, hb⟩ := hrel
  have HW := Lib.hid hb; clear hb
  have hn4 := HML.out
  by_cases hlt : i < N
  ·obtain ⟨g, rfl⟩ := own_some HOM.out (by omega)
   have hg1 := (own_lt HOM.out (g := g) rfl).2.1
   have hc := World.ownsRow.cells (g := g) HOM.out rfl
   have hget := marksW_get M i (by rw [HNN.out]; exact hlt)
   obtain ⟨x, hx⟩ : ∃ x, M.getD i mk0 = x := ⟨_, rfl⟩
   rw [hx] at hget
   have hxm : x ∈ M := by
    rw [← hx, List.getD_eq_getElem?_getD, List.getElem?_eq_getElem (by rw [HNN.out]; exact hlt)]
    exact List.getElem_mem _
   have HX1 := HMM.out x hxm
   have HX2 := HMW.out x hxm
   have HX4 := HMB.out x hxm
   have HTK := Lib.hid (take_mk M (i := i) (by rw [HNN.out]; exact hlt))
   rw [hx] at HTK
   obtain ⟨g0, g1, g2, g3⟩ := hget
   have c0 := hc _ _ g0; have c1 := hc _ _ g1; have c2 := hc _ _ g2; have c3 := hc _ _ g3
   rw [add_none, Nat.zero_add] at c0 c1 c2 c3
   have d0 : wr.cell? ⟨g, i * 4, none⟩ = some (.int .i64 x.1) := (HW.out.cell (p := ⟨g, i * 4, none⟩) hg1).trans c0
   have d2 : wr.cell? ⟨g, i * 4 + 2, none⟩ = some (.int .i32 x.2.2.1) := (HW.out.cell (p := ⟨g, i * 4 + 2, none⟩) hg1).trans c2
   have d3 : wr.cell? ⟨g, i * 4 + 3, none⟩ = some (.bool x.2.2.2) := (HW.out.cell (p := ⟨g, i * 4 + 3, none⟩) hg1).trans c3
   have HK2 := Lib.hid (fun (w : World) (hb : Below w1.heap.size w1 w) => show w.cell? ⟨g, i * 4 + 2, none⟩ = some (.int .i32 x.2.2.1) from (hb.cell (p := ⟨g, i * 4 + 2, none⟩) hg1).trans c2)
   clear hc g0 g1 g2 g3 hx hxm c0 c1 c2 c3 hg1
   obtain ⟨a, wd, r, bd⟩ := x
   dsimp only at HX1 HX2 HX4 d0 d2 d3 HK2
   obtain ⟨hx1, hx2, hx3⟩ := HX1
   obtain ⟨X, hX⟩ : ∃ X, txtE encTurn t (a, wd, r, bd) = X := ⟨_, rfl⟩
   have hxl : X.length ≤ 4 := by rw [← hX]; exact txtE_len t _ HX2
   obtain ⟨ol, hol⟩ : ∃ ol, (M.take i).flatMap (txtE encTurn t) = ol := ⟨_, rfl⟩
   have holl : ol.length ≤ 40000 := by
    rw [← hol]
    have h1 := flat_len t (M.take i) (fun m hm => HMW.out m (List.mem_of_mem_take hm))
    rw [List.length_take] at h1
    omega
   have HOL := Lib.hid (show (M.take (i + 1)).flatMap (txtE encTurn t) = ol ++ X by rw [HTK.out, List.flatMap_append, hol, List.flatMap_singleton, hX])
   rw [hol]
   clear hol
   obtain ⟨XB, hXB⟩ : ∃ XB : ByteArray, (⟨X.toArray⟩ : ByteArray) = XB := ⟨_, rfl⟩
   have hxs : XB.size = X.length := size_mk X XB hXB
   have HAPP := Lib.hid (show (⟨ol.toArray⟩ : ByteArray) ++ XB = ⟨((M.take (i + 1)).flatMap (txtE encTurn t)).toArray⟩ by rw [HOL.out, ← hXB, ba_app])
   have hov : ¬ 9223372036854775807 < ol.length + XB.size := by omega
   have HX3 := Lib.hid hx3
   cases bd
   case true =>
    have hw1 := HX4 rfl
    subst hw1
    have hxx : (⟨((t.drop a).take 1).toArray⟩ : ByteArray) = XB := by rw [← hXB, ← hX]; unfold txtE; rw [if_pos rfl]
    have ha0 : (0 : Int) ≤ a := Int.natCast_nonneg a
    have ha1 : (a : Int) ≤ (a : Int) + 1 := by omega
    have ha2 : (a : Int) + 1 ≤ s.size := by have := HSS.out; omega
    have hsl : ∀ W, (Instr.slice 9 (.string s) (some (.int .i64 (a : Int))) (some (.int .i64 (wrap64 ((a : Int) + 1)))) none).run Tryz.prog W = .ok (.string XB) W := fun W => by
     rw [show wrap64 ((a : Int) + 1) = (a : Int) + 1 by have := HN.out; unfold wrap64; omega, run_slice_string _ _ _ _ _ _ _ Tryz.underlying9 ha0 ha1 ha2, Int.toNat_natCast, show ((a : Int) + 1).toNat = a + 1 by omega, ← HS.out, ByteArray.extract_mk, Nat.add_sub_cancel_left, hxx]
    clear hxx hX hXB hx1 hx2 hx3 hxl hxs holl HX2 HX4 ha0 ha1 ha2 HK2
    go_wp2_with fail
    go_quiet (fail)
    go_wp2_with fail
    rw [HAPP.out]
    go_roundw
    case rel => exact ⟨i + 1, hlt, by go_num, rfl, below_drewN' HW.out _⟩
    case measure => simp [RowKit.intOf]; omega
   case false =>
    have hxx : (⟨(encR (turn r)).toArray⟩ : ByteArray) = XB := by rw [← hXB, ← hX]; unfold txtE; rw [if_neg Bool.false_ne_true, encR_raw _ (turn_isR hx3)]; rfl
    have HXX := Lib.hid hxx
    have hri := (isR_iff _).1 hx3
    have HRI := Lib.hid (show -2147483648 ≤ (r : Int) ∧ (r : Int) ≤ 2147483647 by omega)
    have HTD := Lib.hid (turn_doc r)
    have HTR := Lib.hid (turn_isR hx3)
    obtain ⟨x, hx⟩ : ∃ x, (Cases.docPair r).1 = x := ⟨_, rfl⟩
    obtain ⟨y, hy⟩ : ∃ y, (Cases.docPair r).2 = y := ⟨_, rfl⟩
    rw [hx, hy] at HTD
    have HX := Lib.hid hx; have HY := Lib.hid hy
    clear hxx hX hXB hx1 hx2 hx3 hxl hxs holl HX2 HX4 hri hx hy
    by_cases hxr : x = r
    ·have hxb : (x == (r : Int)) = true := by simp [hxr]
     have HT1 := Lib.hid (show turn r = y by rw [HTD.out, if_pos hxr])
     clear hxr
     go_wp2_with (first
      | (go_at_call 48; refine (BPair_ok r HRI.out _ _ (bookP_below HB.out (HB1.out.trans (HW.out.mono HB1.out.size))).1).mono ?_; rintro e w5 ⟨rfl, hb⟩; rw [HX.out, HY.out]; have HW5 := Lib.hid (HW.out.trans (hb.mono HW.out.size)); have d5 := HK2.out _ HW5.out; clear hb)
      | (go_at_call 49; refine (tEncode_ok y (by rw [← HT1.out]; exact HTR.out) _).mono ?_; rintro e w6 ⟨rfl, hb⟩; rw [← HT1.out, HXX.out]; have HW6 := Lib.hid (HW5.out.trans (hb.mono HW5.out.size)); clear hb))
     rw [HAPP.out]
     go_roundw
     case rel => exact ⟨i + 1, hlt, by go_num, rfl, HW6.out⟩
     case measure => simp [RowKit.intOf]; omega
    ·have hxb : (x == (r : Int)) = false := by simp [hxr]
     have HT1 := Lib.hid (show turn r = x by rw [HTD.out, if_neg hxr])
     clear hxr
     go_wp2_with (first
      | (go_at_call 48; refine (BPair_ok r HRI.out _ _ (bookP_below HB.out (HB1.out.trans (HW.out.mono HB1.out.size))).1).mono ?_; rintro e w5 ⟨rfl, hb⟩; rw [HX.out, HY.out]; have HW5 := Lib.hid (HW.out.trans (hb.mono HW.out.size)); have d5 := HK2.out _ HW5.out; clear hb)
      | (go_at_call 49; refine (tEncode_ok x (by rw [← HT1.out]; exact HTR.out) _).mono ?_; rintro e w6 ⟨rfl, hb⟩; rw [← HT1.out, HXX.out]; have HW6 := Lib.hid (HW5.out.trans (hb.mono HW5.out.size)); clear hb))
     rw [HAPP.out]
     go_roundw
     case rel => exact ⟨i + 1, hlt, by go_num, rfl, HW6.out⟩
     case measure => simp [RowKit.intOf]; omega
  ·obtain rfl : i = N := by omega
   have htk : M.take i = M := List.take_of_length_le (by rw [HNN.out]; exact Nat.le_refl _)
   rw [htk, HWR.out]
   clear htk
   go_wp2_with fail
   go_ret
   exact ⟨rfl, HB1.out.trans (HW.out.mono HB1.out.size)⟩
end
end Go.Proofs.YtnfghboholehdaaGreatDoor.foldWrites
