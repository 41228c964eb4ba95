/- FoldOnce, walked: Turned; slices.BinarySearch; what Title writes. -/
import Derived.Test.YtnfghboholehdaaGreatDoorFG
import Derived.Laws.OwnMore
import Derived.BigQuiet
import Derived.Test.YtnfghboholehdaaGreatDoorFB
import Derived.IntWalk
namespace Go.Proofs.YtnfghboholehdaaGreatDoor.foldOnce
section
open Go.Shelf Go.RowKit Go.Lib Go.Proofs.YtnfghboholehdaaGreatDoor.Am
open Cases (smalls greats)
open Folds (dec dec_pos dec_le)
/-- the text that Turned puts in the place of a rune -/
def turX (r : Nat) (x : List UInt8) : List UInt8 := match Cases.look greats r with
  | some g => (Utf8.encode g).data.toList
  | none => match Cases.look smalls r with
    | some s => (Utf8.encode s).data.toList
    | none => if (r : Int) = 65533 then x else (Utf8.encode r).data.toList
def turP (p : Pc) : Pc := (p.1, p.2.1, turX p.2.1 p.2.2)
theorem fffd_facts : Cases.look greats 65533 = none ∧ Cases.look smalls 65533 = none ∧ encL (formV 65533 0) = (Utf8.encode 65533).data.toList ∧ Cases.cased 65533 = false := by decide +kernel
theorem turX_one (fin : Nat → Bool) (i : Nat) (l : List UInt8) : turX (dec l).1 (Folds.one (encW 0 fin i) l) = Folds.one encTurn l := by
  unfold turX Folds.one encTurn turn
  by_cases hb : (dec l).1 = 65533 ∧ (dec l).2 = 1
  · rw [if_pos hb, if_pos hb, hb.1]
    rw [show ((65533 : Nat) : Int) = 65533 from rfl, fffd_facts.1, fffd_facts.2.1, if_pos rfl]
  · rw [if_neg hb, if_neg hb]
    by_cases h5 : (dec l).1 = 65533
    · rw [h5, show ((65533 : Nat) : Int) = 65533 from rfl, fffd_facts.1, fffd_facts.2.1, if_pos rfl]
      unfold encW
      rw [if_neg (fun h => absurd h.1.2 (by decide))]
      exact fffd_facts.2.2.1
    · cases Cases.look greats ((dec l).1 : Int) with
      | some g => rfl
      | none =>
        cases Cases.look smalls ((dec l).1 : Int) with
        | some s => rfl
        | none =>
          dsimp only
          rw [if_neg (by omega)]
theorem map_turP (fin : Nat → Bool) (t : List UInt8) : ∀ n i e, (pcs (encW 0 fin) t n i e).map turP = pcs (fun _ => encTurn) t n i e
  | 0, _, _ => rfl
  | n + 1, i, e => by
    show (if e < t.length then _ else _ : List Pc).map turP = if e < t.length then _ else _
    split
    · rw [List.map_cons, map_turP fin t n]
      congr 1
      rw [← turX_one fin i (t.drop e)]
      rfl
    · rfl
theorem catP_turned (fin : Nat → Bool) (t : List UInt8) : catP ((pcsOf 0 fin t).map turP) = turnT t := by
  unfold pcsOf turnT
  rw [map_turP]
/-! ### a piece's text is written anew -/
theorem set_piece (A B : List Pc) (p : Pc) (X : List UInt8) : (piecesV (A ++ p :: B)).set (A.length * 3 + 2) (.string ⟨X.toArray⟩) = piecesV (A ++ (p.1, p.2.1, X) :: B) := by
  rw [piecesV_app, piecesV_app, ← piecesV_len A, List.set_append_right _ _ (by omega), Nat.add_sub_cancel_left]
  rfl
theorem get_mid (A B : List Pc) (p : Pc) : (A ++ p :: B).getD A.length pc0 = p := by
  rw [List.getD_eq_getElem?_getD, List.getElem?_append_right (Nat.le_refl _), Nat.sub_self]
  rfl
theorem drop_mid (l : List Pc) (k : Nat) (h : k < l.length) : l.drop k = l.getD k pc0 :: l.drop (k + 1) := by
  rw [List.drop_eq_getElem_cons h, List.getD_eq_getElem?_getD, List.getElem?_eq_getElem h]
  rfl
theorem take_mid (l : List Pc) (k : Nat) (h : k < l.length) : l.take (k + 1) = l.take k ++ [l.getD k pc0] := by
  rw [List.take_add_one, List.getD_eq_getElem?_getD, List.getElem?_eq_getElem h]
  rfl
/-- the row of pieces, a piece of it in sight -/
structure RowK (w : World) (base g n c k : Nat) (A B : List Pc) (p : Pc) : Prop where
  own : w.ownsRow base 46 3 (.slice (some ⟨g, 0, none⟩) n c) n (piecesV (A ++ p :: B))
  len : A.length = k
theorem RowK.cells {w : World} {base g n c k : Nat} {A B : List Pc} {p : Pc} (h : RowK w base g n c k A B p) (hk : k < n) :
    w.cell? ⟨g, k * 3, none⟩ = some (.int .i64 p.1) ∧ w.cell? ⟨g, k * 3 + 1, none⟩ = some (.int .i32 p.2.1) ∧ w.cell? ⟨g, k * 3 + 2, none⟩ = some (.string ⟨p.2.2.toArray⟩) ∧ w.frozen? ⟨g, k * 3 + 2, none⟩ = false ∧ base ≤ g ∧ g < w.heap.size := by
  obtain ⟨h1, h2⟩ := h
  have hl : k < (A ++ p :: B).length := by rw [List.length_append, List.length_cons, ← h2]; omega
  have hg := piecesV_get (A ++ p :: B) k hl
  rw [← h2, get_mid, h2] at hg
  refine ⟨?_, ?_, ?_, h1.frozenAt _, ?_⟩
  · rw [h1.cellAt _ (by omega)]; exact hg.1
  · rw [h1.cellAt _ (by omega)]; exact hg.2.1
  · rw [h1.cellAt _ (by omega)]; exact hg.2.2
  · exact ⟨(own_lt h1 rfl).1, (own_lt h1 rfl).2.1⟩
theorem RowK.set {w : World} {base g n c k : Nat} {A B : List Pc} {p : Pc} (h : RowK w base g n c k A B p) (X : List UInt8) :
    (w.setCell ⟨g, k * 3 + 2, none⟩ (.string ⟨X.toArray⟩)).ownsRow base 46 3 (.slice (some ⟨g, 0, none⟩) n c) n (piecesV ((A ++ [(p.1, p.2.1, X)]) ++ B)) := by
  obtain ⟨h1, rfl⟩ := h
  have h2 := (h1.stored (A.length * 3 + 2) (.string ⟨X.toArray⟩)).1
  rw [set_piece] at h2
  rw [List.append_assoc]
  exact h2
theorem own_drewN {w : World} {base : Nat} {e : TypeId} {size n : Nat} {v : Value} {xs : List Value} (h : w.ownsRow base e size v n xs) (q : Nat) : (w.drewN q).ownsRow base e size v n xs := h
/-! ### a lookup in a region that draws its order -/
theorem quiet_look {P : Program} {o : Oper} {a : Act} {C : World → Prop} {K : Act → Prop} (m x : Operand) (t : TypeId) (hop : o.op = Op.lookup t m x true)
    {kt et : TypeId} {i : TypeInfo} {z : Value} (ht : P.underlying t = some (.map kt et)) (hk : P.underlying kt = some (.int .i32)) (hi : P.info? et = some i) (hz : i.zero = some z) {B : Nat} {r : Int} {l : List (Int × Int)}
    (hm : ∀ w, C w → MapAt w B (letters l)) (ha : a.eval m = .map (some B)) (hx : a.eval x = .int .i32 r) {q : Option Int} (hl : Cases.look l r = q)
    (hK : K (a.put o.dst (match q with | some s => .tuple #[.int .i32 s, .bool true] | none => .tuple #[z, .bool false]))) : o.quiet P a C K := by
  cases q with
  | none =>
    refine ⟨_, fun w hw => ?_, hK⟩
    obtain ⟨es, c, hw2, hks, hm2⟩ := hm w hw
    obtain ⟨e, he, hfe⟩ := hm2 r
    have hr := run_lookup (P := P) (w := w) (t := t) (r := B) (es := es) (c := c) (key := .int .i32 r) true ht hk hw2 rfl (fun x hx => by obtain ⟨i, hi⟩ := hks x hx; rw [hi]; rfl) hi hz he
    unfold letters at hfe
    rw [hl] at hfe
    obtain rfl : e = none := hfe
    unfold Oper.quietAt
    simp [execOp, hop, ha, hx, hr, Oper.quietUpon]
  | some s =>
    refine ⟨_, fun w hw => ?_, hK⟩
    obtain ⟨es, c, hw2, hks, hm2⟩ := hm w hw
    obtain ⟨e, he, hfe⟩ := hm2 r
    have hr := run_lookup (P := P) (w := w) (t := t) (r := B) (es := es) (c := c) (key := .int .i32 r) true ht hk hw2 rfl (fun x hx => by obtain ⟨i, hi⟩ := hks x hx; rw [hi]; rfl) hi hz he
    unfold letters at hfe
    rw [hl] at hfe
    obtain ⟨e', rfl, hq⟩ := hfe
    have hq : e'.val = .int .i32 s := hq
    unfold Oper.quietAt
    simp [execOp, hop, ha, hx, hr, Oper.quietUpon, hq]
end
section
open Go.Shelf Go.RowKit Go.Lib Go.Proofs.YtnfghboholehdaaGreatDoor.Am
open Cases (smalls greats)
def TurnedPost (t : List UInt8) (W : World) (e : Ending) (w' : World) : Prop := e = .returned (.string ⟨(turnT t).toArray⟩) ∧ Below W.heap.size W w'
theorem own_some {w : World} {base : Nat} {e : TypeId} {size n c : Nat} {A : Option Addr} {xs : List Value} (h : w.ownsRow base e size (.slice A n c) n xs) (hn : 0 < n) : ∃ g, A = some ⟨g, 0, none⟩ := by
  obtain ⟨g, cap, hv, _⟩ := h.form hn
  injection hv with hv
  exact ⟨g, hv⟩
theorem map_mid (l : List Pc) (k : Nat) (h : k < l.length) (p : Pc) (hp : l.getD k pc0 = p) : (l.take (k + 1)).map turP = (l.take k).map turP ++ [turP p] := by
  rw [take_mid l k h, hp, List.map_append]
  rfl
theorem below_drewN {B : Nat} {W w : World} (h : Below B W w) (q : Nat) : Below B W (w.drewN q) := ⟨h.os, h.tape, h.output, h.size, h.block⟩
theorem mapAt_alloc {w : World} {B : Nat} {l : List (Int × Int)} (h : MapAt w B (letters l)) (o : Obj) : MapAt (w.alloc o) B (letters l) := by
  obtain ⟨es, c, hw, r⟩ := h
  exact ⟨es, c, (Below.heap_alloc w o B (heap_lt hw)).trans hw, r⟩
set_option maxHeartbeats 4000000 in
set_option maxRecDepth 100000 in
theorem Turned_ok (t : List UInt8) (W : World) (ho : OpensW W) (hT : Lib.Utf8Tabs 0 1 W) (hn : t.length ≤ 10000) : Calls Tryz.prog 22 #[.string ⟨t.toArray⟩] W (TurnedPost t W) := by
  have HT := Lib.hid hT; have HO := Lib.hid ho; have HN := Lib.hid hn; clear hT ho hn
  have HL := Lib.hid (pcs_len (encW 0 (finalF (runesOf t))) (encW_len 0 _) t t.length 0 0)
  have HTL := Lib.hid (turnT_len t)
  obtain ⟨l, hl⟩ : ∃ l, pcsOf 0 (finalF (runesOf t)) t = l := ⟨_, rfl⟩
  have HLL := Lib.hid (show l.length ≤ 10000 by rw [← hl]; exact Nat.le_trans HL.out.2 HN.out)
  have HCT := Lib.hid (show catP (l.map turP) = turnT t by rw [← hl]; exact catP_turned _ _)
  have HLE := Lib.hid hl; clear hl HL
  obtain ⟨n, hn⟩ : ∃ n, l.length = n := ⟨_, rfl⟩
  have HNN := Lib.hid hn; clear hn
  go_enter Tryz.func22, Tryz.ntmps22
  go_wp2_with (first
    | (go_at_call 28; refine HO.out.mono ?_; rintro e w1 ⟨v, rfl, h1, h2⟩; obtain ⟨B, o, rfl, _⟩ := id h1; have H1 := Lib.hid h1; have B1 := Lib.hid h2; clear h1 h2)
    | (go_at_call 29; refine (write_zero t (finalF (runesOf t)) _ _ (openW_P H1.out) (tabs_below B1.out HT.out) (Nat.le_trans HN.out (by decide)) (finals_ok _ (Nat.le_trans (runesOf_len t) (Nat.le_trans HN.out (by decide))) _ _ H1.out)).mono ?_; rintro e w2 ⟨v2, rfl, hown, h2⟩; rw [HLE.out, HNN.out] at hown; have B2 := Lib.hid h2; clear h2; obtain ⟨A2, c2, rfl, _⟩ := own_slice3 hown; have OW := Lib.hid hown; clear hown))
  have HNL := Lib.hid (show n ≤ 10000 by rw [← HNN.out]; exact HLL.out)
  clear HLL
  go_loopw [18] (fun vi wr => ∃ k : Nat, k ≤ n ∧ vi = .int .i64 k ∧ wr.ownsRow w1.heap.size 46 3 (.slice A2 n c2) n (piecesV ((l.take k).map turP ++ l.drop k)) ∧ Below w1.heap.size w1 wr) (fun vi _ => n - (RowKit.intOf vi).toNat)
  case atStart => exact ⟨0, Nat.zero_le _, rfl, OW.out, B2.out⟩
  case round =>
    obtain ⟨k, hk, rfl, hown, hb⟩ := hrel
    have HW := Lib.hid hown; have HB := Lib.hid hb; clear hown hb
    by_cases hlt : k < n
    · have hlt2 : k < l.length := by rw [HNN.out]; exact hlt
      obtain ⟨g, rfl⟩ := own_some HW.out (by omega)
      obtain ⟨p, hp⟩ : ∃ p, l.getD k pc0 = p := ⟨_, rfl⟩
      have HMM := Lib.hid (map_mid l k hlt2 p hp)
      have hd := drop_mid l k hlt2
      rw [hp] at hd
      rw [hd] at HW
      clear hd hp hlt2
      obtain ⟨A, hA⟩ : ∃ A, (l.take k).map turP = A := ⟨_, rfl⟩
      obtain ⟨Bl, hBl⟩ : ∃ Bl, l.drop (k + 1) = Bl := ⟨_, rfl⟩
      have hAl : A.length = k := by rw [← hA, List.length_map, List.length_take]; have := HNN.out; omega
      rw [hA] at HW HMM
      rw [hBl] at HW
      have HBl := Lib.hid hBl
      clear hA hBl
      have HK := Lib.hid (RowK.mk HW.out hAl)
      clear hAl HW
      obtain ⟨k0, k1, k2, hfz, hg1, hg2⟩ := HK.out.cells hlt
      obtain ⟨pa, pr, px⟩ := p
      dsimp only at k0 k1 k2
      have hbook := openW_below H1.out HB.out
      obtain ⟨B', o', S, G, X, hv, c1, c2', c3, m1, m2, m3⟩ := openW_P hbook
      injection hv with hv
      injection hv with hv
      injection hv with hv1 hv2
      subst hv1 hv2
      clear c3 m3 hbook
      have hbl := cell_lt c1
      have HBA := Lib.hid (HB.out.alloc HB.out.size (.cells #[.int .i64 pa, .int .i32 pr, .string ⟨px.toArray⟩] 46))
      have M1 := Lib.hid (mapAt_alloc m1 (.cells #[.int .i64 pa, .int .i32 pr, .string ⟨px.toArray⟩] 46)); have M2 := Lib.hid (mapAt_alloc m2 (.cells #[.int .i64 pa, .int .i32 pr, .string ⟨px.toArray⟩] 46)); clear m1 m2
      obtain ⟨k', hk'⟩ : ∃ k', k + 1 = k' := ⟨_, rfl⟩
      have hwk : wrap64 ((k : Int) + 1) = (k' : Int) := by have := HNL.out; unfold wrap64; omega
      rw [hk'] at HMM HBl
      have HOK := Lib.hid (fun (X : List UInt8) (q : Nat) => (RowK.mk (own_drewN (own_alloc (o := .cells #[.int .i64 pa, .int .i32 pr, .string ⟨px.toArray⟩] 46) HK.out.own) q) HK.out.len).set X)
      clear HK
      cases hgr : Cases.look greats pr with
      | some gg =>
        have HGR := Lib.hid hgr; clear hgr
        go_wp2_with fail
        refine wp_region_quiet_lit (by kernel_rfl) (by kernel_rfl) ?_
        repeat (go_big_quiet_step (fail))
        refine BigFrame.wpQuiet_want (by kernel_rfl) (fun K hK => ?_)
        refine quiet_look _ _ 74 rfl Tryz.underlying74 Tryz.underlying21 rfl rfl (fun w hw => by obtain ⟨q, rfl⟩ := hw; exact M2.out) rfl rfl HGR.out (hK _ ?_)
        clear hK K
        (try simp only [Act.put]); (try simp only [List.setIfInBounds_toArray]); (try simp only [List.set_cons_succ]); (try simp only [List.set_cons_zero])
        repeat (go_big_quiet_step (fail))
        refine wpQuiet_nil ?_
        intro _ hw'
        obtain ⟨nq, hw''⟩ := hw'
        subst hw''
        go_wp2_with fail
        have hs : (⟨(turX pr px).toArray⟩ : ByteArray) = Utf8.encode gg := by unfold turX; rw [HGR.out] <;> exact enc_data gg
        have hh := HOK.out (turX pr px) nq
        rw [hs] at hh
        refine ⟨⟨k', by omega, by rw [hwk], ?_, Below.setCell (below_drewN HBA.out _) hg1 _⟩, by rw [hwk]; simp [RowKit.intOf]; omega⟩
        rw [HMM.out, HBl.out]
        exact hh
      | none =>
        have HGR := Lib.hid hgr; clear hgr
        go_wp2_with fail
        refine wp_region_quiet_lit (by kernel_rfl) (by kernel_rfl) ?_
        repeat (go_big_quiet_step (fail))
        refine BigFrame.wpQuiet_want (by kernel_rfl) (fun K hK => ?_)
        refine quiet_look _ _ 74 rfl Tryz.underlying74 Tryz.underlying21 rfl rfl (fun w hw => by obtain ⟨q, rfl⟩ := hw; exact M2.out) rfl rfl HGR.out (hK _ ?_)
        clear hK K
        (try simp only [Act.put]); (try simp only [List.setIfInBounds_toArray]); (try simp only [List.set_cons_succ]); (try simp only [List.set_cons_zero])
        repeat (go_big_quiet_step (fail))
        refine wpQuiet_nil ?_
        intro _ hw'
        obtain ⟨nq, hw''⟩ := hw'
        subst hw''
        cases hsm : Cases.look smalls pr with
        | some ss =>
          have HSM := Lib.hid hsm; clear hsm
          go_wp2_with fail
          refine wp_region_quiet_lit (by kernel_rfl) (by kernel_rfl) ?_
          repeat (go_big_quiet_step (fail))
          refine BigFrame.wpQuiet_want (by kernel_rfl) (fun K hK => ?_)
          refine quiet_look _ _ 74 rfl Tryz.underlying74 Tryz.underlying21 rfl rfl (fun w hw => by obtain ⟨q, rfl⟩ := hw; exact M1.out) rfl rfl HSM.out (hK _ ?_)
          clear hK K
          (try simp only [Act.put]); (try simp only [List.setIfInBounds_toArray]); (try simp only [List.set_cons_succ]); (try simp only [List.set_cons_zero])
          repeat (go_big_quiet_step (fail))
          refine wpQuiet_nil ?_
          intro _ hw'
          obtain ⟨nq2, hw''⟩ := hw'
          subst hw''
          go_wp2_with fail
          have hs : (⟨(turX pr px).toArray⟩ : ByteArray) = Utf8.encode ss := by unfold turX; rw [HGR.out, HSM.out] <;> exact enc_data ss
          have hh := HOK.out (turX pr px) (nq + nq2)
          rw [hs] at hh
          refine ⟨⟨k', by omega, by rw [hwk], ?_, Below.setCell (below_drewN HBA.out _) hg1 _⟩, by rw [hwk]; simp [RowKit.intOf]; omega⟩
          rw [HMM.out, HBl.out]
          exact hh
        | none =>
          have HSM := Lib.hid hsm; clear hsm
          go_wp2_with fail
          refine wp_region_quiet_lit (by kernel_rfl) (by kernel_rfl) ?_
          repeat (go_big_quiet_step (fail))
          refine BigFrame.wpQuiet_want (by kernel_rfl) (fun K hK => ?_)
          refine quiet_look _ _ 74 rfl Tryz.underlying74 Tryz.underlying21 rfl rfl (fun w hw => by obtain ⟨q, rfl⟩ := hw; exact M1.out) rfl rfl HSM.out (hK _ ?_)
          clear hK K
          (try simp only [Act.put]); (try simp only [List.setIfInBounds_toArray]); (try simp only [List.set_cons_succ]); (try simp only [List.set_cons_zero])
          repeat (go_big_quiet_step (fail))
          refine wpQuiet_nil ?_
          intro _ hw'
          obtain ⟨nq2, hw''⟩ := hw'
          subst hw''
          by_cases h5 : (pr : Int) = 65533
          · have hb5 : ((pr : Int) == 65533) = true := by simp [h5]
            have H5 := Lib.hid h5; clear h5
            go_wp2_with fail
            have hs : (⟨(turX pr px).toArray⟩ : ByteArray) = ⟨px.toArray⟩ := by unfold turX; rw [HGR.out, HSM.out]; dsimp only; rw [if_pos H5.out]
            have hh := HOK.out (turX pr px) (nq + nq2)
            rw [hs] at hh
            refine ⟨⟨k', by omega, by rw [hwk], ?_, Below.setCell (below_drewN HBA.out _) hg1 _⟩, by rw [hwk]; simp [RowKit.intOf]; omega⟩
            rw [HMM.out, HBl.out]
            exact hh
          · have hb5 : ((pr : Int) == 65533) = false := by simp [h5]
            have H5 := Lib.hid h5; clear h5
            go_wp2_with fail
            have hs : (⟨(turX pr px).toArray⟩ : ByteArray) = Utf8.encode pr := by unfold turX; rw [HGR.out, HSM.out]; dsimp only; rw [if_neg H5.out] <;> exact enc_data pr
            have hh := HOK.out (turX pr px) (nq + nq2)
            rw [hs] at hh
            refine ⟨⟨k', by omega, by rw [hwk], ?_, Below.setCell (below_drewN HBA.out _) hg1 _⟩, by rw [hwk]; simp [RowKit.intOf]; omega⟩
            rw [HMM.out, HBl.out]
            exact hh
    · obtain rfl : k = n := by omega
      have htk : (l.take k).map turP ++ l.drop k = l.map turP := by rw [← HNN.out, List.take_length, List.drop_length, List.append_nil]
      rw [htk] at HW
      have hlm : (l.map turP).length = k := by rw [List.length_map]; exact HNN.out
      have HJ := Lib.hid (joined_ok (l.map turP) (.slice A2 k c2) w1.heap.size wr (by rw [hlm]; exact HW.out) (by rw [hlm]; have := HNL.out; omega) (by rw [HCT.out]; have := HTL.out; have := HN.out; omega))
      clear htk hlm
      go_wp2_with (go_at_call 35; refine HJ.out.mono ?_; rintro e w3 ⟨rfl, h3⟩; have B3 := Lib.hid (HB.out.trans (h3.mono HB.out.size)); clear h3)
      go_ret
      exact ⟨by rw [HCT.out]; rfl, B1.out.trans (B3.out.mono B1.out.size)⟩
end
section
open Go.Shelf Go.RowKit Go.Lib Go.Proofs.YtnfghboholehdaaGreatDoor.Am
theorem isNaNc_ok (x : Int) (w : World) : Calls Tryz.prog 103 #[.int .i64 x] w fun e w' => e = .returned (.bool false) ∧ w' = w := by
  go_enter Tryz.func103, Tryz.ntmps103
  go_wp2
  go_ret
  exact ⟨by simp, rfl⟩
theorem isNaNs_ok (x : Int) (w : World) : Calls Tryz.prog 66 #[.int .i64 x] w fun e w' => e = .returned (.bool false) ∧ w' = w := by
  go_enter Tryz.func66, Tryz.ntmps66
  go_wp2
  go_ret
  exact ⟨by simp, rfl⟩
theorem Less_ok (x y : Int) (w : World) : Calls Tryz.prog 65 #[.int .i64 x, .int .i64 y] w fun e w' => e = .returned (.bool (decide (x < y))) ∧ w' = w := by
  go_enter Tryz.func65, Tryz.ntmps65
  go_wp2_with (go_at_call 103; refine (isNaNc_ok _ _).mono ?_; rintro e w' ⟨rfl, rfl⟩)
  go_ret
  exact ⟨rfl, rfl⟩
/-- ints, in memory -/
structure IntsR (w : World) (A : Option Addr) (n : Nat) (zs : List Int) : Prop where
  len : zs.length = n
  small : n ≤ 100000
  at_ : 0 < n → ∃ g o, A = some ⟨g, o, none⟩ ∧ g < w.heap.size ∧ ∀ j, j < n → w.cell? ⟨g, o + j, none⟩ = some (.int .i64 (zs.getD j 0))
def BsPost (W : World) (e : Ending) (w' : World) : Prop := ∃ (m : Int) (b : Bool), e = .returned (.tuple #[.int .i64 m, .bool b]) ∧ Below W.heap.size W w'
set_option maxHeartbeats 4000000 in
set_option maxRecDepth 100000 in
theorem Bs_ok (zs : List Int) (x : Int) (A : Option Addr) (n c : Nat) (W : World) (h : IntsR W A n zs) :
    Calls Tryz.prog 31 #[.slice A n c, .int .i64 x] W (BsPost W) := by
  have hsm := h.small
  have HC := Lib.hid h; clear h
  go_enter Tryz.func31, Tryz.ntmps31
  go_wp2
  go_loopw [7, 8] (fun s7 s8 wr => ∃ lo hi : Nat, s7 = .int .i64 lo ∧ s8 = .int .i64 hi ∧ lo ≤ hi ∧ hi ≤ n ∧ Below W.heap.size W wr) (fun a b _ => (RowKit.intOf b - RowKit.intOf a).toNat)
  case atStart => exact ⟨0, n, rfl, rfl, Nat.zero_le _, Nat.le_refl _, Below.refl _ _⟩
  case round =>
    obtain ⟨lo, hi, rfl, rfl, hlh, hin, hb⟩ := hrel
    have HB := Lib.hid hb; clear hb
    by_cases hlt : lo < hi
    · obtain ⟨g, o, rfl, hgl, hcell⟩ := HC.out.at_ (by omega)
      have cm : wr.cell? ⟨g, o + (lo + hi) / 2, none⟩ = some (.int .i64 (zs.getD ((lo + hi) / 2) 0)) := (HB.out.cell (p := ⟨g, o + (lo + hi) / 2, none⟩) hgl).trans (hcell _ (by omega))
      clear hcell
      obtain ⟨y, hy⟩ : ∃ y, zs.getD ((lo + hi) / 2) 0 = y := ⟨_, rfl⟩
      rw [hy] at cm
      clear hy
      by_cases hyx : y < x
      · go_wp2_with (first | (go_at_call 65; refine (Less_ok _ _ _).mono ?_; rintro e w' ⟨rfl, rfl⟩) | (go_at_call 66; refine (isNaNs_ok _ _).mono ?_; rintro e w' ⟨rfl, rfl⟩))
        go_roundw
        case rel => exact ⟨(lo + hi) / 2 + 1, hi, by rw [show ((lo : Int) + (hi : Int)) / 2 + 1 = (((lo + hi) / 2 + 1 : Nat) : Int) by omega], rfl, by omega, hin, HB.out⟩
        case measure => simp [RowKit.intOf]; omega
      · go_wp2_with (first | (go_at_call 65; refine (Less_ok _ _ _).mono ?_; rintro e w' ⟨rfl, rfl⟩) | (go_at_call 66; refine (isNaNs_ok _ _).mono ?_; rintro e w' ⟨rfl, rfl⟩))
        go_roundw
        case rel => exact ⟨lo, (lo + hi) / 2, rfl, by rw [show ((lo : Int) + (hi : Int)) / 2 = (((lo + hi) / 2 : Nat) : Int) by omega], by omega, by omega, HB.out⟩
        case measure => simp [RowKit.intOf]; omega
    · have : hi = lo := by omega
      subst this
      by_cases hn : hi < n
      · obtain ⟨g, o, rfl, hgl, hcell⟩ := HC.out.at_ (by omega)
        have cl : wr.cell? ⟨g, o + hi, none⟩ = some (.int .i64 (zs.getD hi 0)) := (HB.out.cell (p := ⟨g, o + hi, none⟩) hgl).trans (hcell _ hn)
        clear hcell
        obtain ⟨y, hy⟩ : ∃ y, zs.getD hi 0 = y := ⟨_, rfl⟩
        rw [hy] at cl
        clear hy
        by_cases hyx : y = x
        · go_wp2_with (first | (go_at_call 65; refine (Less_ok _ _ _).mono ?_; rintro e w' ⟨rfl, rfl⟩) | (go_at_call 66; refine (isNaNs_ok _ _).mono ?_; rintro e w' ⟨rfl, rfl⟩))
          go_ret2
          exact ⟨_, _, rfl, HB.out⟩
        · go_wp2_with (first | (go_at_call 65; refine (Less_ok _ _ _).mono ?_; rintro e w' ⟨rfl, rfl⟩) | (go_at_call 66; refine (isNaNs_ok _ _).mono ?_; rintro e w' ⟨rfl, rfl⟩))
          go_ret2
          exact ⟨_, _, rfl, HB.out⟩
      · go_wp2_with (first | (go_at_call 65; refine (Less_ok _ _ _).mono ?_; rintro e w' ⟨rfl, rfl⟩) | (go_at_call 66; refine (isNaNs_ok _ _).mono ?_; rintro e w' ⟨rfl, rfl⟩))
        go_ret2
        exact ⟨_, _, rfl, HB.out⟩
end
section
open Go.Shelf Go.RowKit Go.Lib Go.Proofs.YtnfghboholehdaaGreatDoor.Am
open Folds (dec dec_pos dec_le)
/-- what word.Bounds is to do: ints, whatever they are, in memory of its own -/
def BoundsPost (W : World) (e : Ending) (w' : World) : Prop := ∃ A n c zs, e = .returned (.slice A n c) ∧ IntsR w' A n zs ∧ (∀ a, A = some a → W.heap.size ≤ a.block) ∧ Below W.heap.size W w'
def TitlePost (t : List UInt8) (W : World) (e : Ending) (w' : World) : Prop := ∃ ch, e = .returned (.string ⟨(catP (pcs (encT ch (finalF (runesOf t))) t t.length 0 0)).toArray⟩) ∧ Below W.heap.size W w'
/-- a piece, and what stands in its place -/
def TitR (p p' : Pc) : Prop := p' = p ∨ (Cases.cased p.2.1 = true ∧ p' = (p.1, p.2.1, encL (formV p.2.1 2)))
theorem tit_pcs (ch fin : Nat → Bool) (t : List UInt8) : ∀ n i e (A : List Pc), A.length = (pcs (encW 0 fin) t n i e).length →
    (∀ j, j < A.length → (ch (i + j) = false ∧ A.getD j pc0 = (pcs (encW 0 fin) t n i e).getD j pc0) ∨ (ch (i + j) = true ∧ Cases.cased ((pcs (encW 0 fin) t n i e).getD j pc0).2.1 = true ∧ A.getD j pc0 = (((pcs (encW 0 fin) t n i e).getD j pc0).1, ((pcs (encW 0 fin) t n i e).getD j pc0).2.1, encL (formV ((pcs (encW 0 fin) t n i e).getD j pc0).2.1 2)))) →
    A = pcs (encT ch fin) t n i e
  | 0, _, _, A, h, _ => List.eq_nil_of_length_eq_zero h
  | n + 1, i, e, A, h, hr => by
    have e1 : ∀ en, pcs en t (n + 1) i e = if e < t.length then (e, (dec (t.drop e)).1, Folds.one (en i) (t.drop e)) :: pcs en t n (i + 1) (e + (dec (t.drop e)).2) else [] := fun _ => rfl
    rw [e1] at h hr ⊢
    by_cases c : e < t.length
    · rw [if_pos c] at h hr ⊢
      cases A with
      | nil => simp at h
      | cons a A =>
        have h0 := hr 0 (by simp)
        have hi := tit_pcs ch fin t n (i + 1) (e + (dec (t.drop e)).2) A (by simpa using h) fun j hj => by
          have := hr (j + 1) (by simpa using hj)
          rw [show i + (j + 1) = i + 1 + j by omega] at this
          simpa using this
        rw [hi]
        congr 1
        rcases h0 with ⟨x1, x2⟩ | ⟨x1, x2, x3⟩
        · have x2 : a = (e, (dec (t.drop e)).1, Folds.one (encW 0 fin i) (t.drop e)) := x2
          rw [x2]
          have : encT ch fin i = encW 0 fin i := by funext r; unfold encT; rw [Nat.add_zero] at x1; rw [x1]; rfl
          rw [this]
        · have x2 : Cases.cased ((dec (t.drop e)).1 : Int) = true := x2
          have x3 : a = (e, (dec (t.drop e)).1, encL (formV (dec (t.drop e)).1 2)) := x3
          have hnb : ¬ ((dec (t.drop e)).1 = 65533 ∧ (dec (t.drop e)).2 = 1) := by
            rintro ⟨y, _⟩
            rw [y] at x2
            exact Bool.false_ne_true (fffd_facts.2.2.2.symm.trans x2)
          rw [x3]
          unfold Folds.one encT
          rw [Nat.add_zero] at x1
          rw [if_neg hnb, if_pos x1]
    · rw [if_neg c] at h ⊢
      exact List.eq_nil_of_length_eq_zero h
/-- so far, each piece or what stands in its place -/
structure TitL (l : List Pc) (k : Nat) (A : List Pc) : Prop where
  len : A.length = k
  rel : ∀ j, j < k → TitR (l.getD j pc0) (A.getD j pc0)
theorem TitL.snoc {l A : List Pc} {k : Nat} {p' : Pc} (h : TitL l k A) (hr : TitR (l.getD k pc0) p') : TitL l (k + 1) (A ++ [p']) := by
  refine ⟨by rw [List.length_append, h.len]; rfl, fun j hj => ?_⟩
  rcases Nat.lt_or_ge j k with c | c
  · have := h.rel j c
    rw [List.getD_eq_getElem?_getD (l := A ++ [p']), List.getElem?_append_left (by rw [h.len]; exact c), ← List.getD_eq_getElem?_getD]
    exact this
  · obtain rfl : j = k := by omega
    have e1 : (A ++ [p']).getD j pc0 = p' := by
      rw [List.getD_eq_getElem?_getD, List.getElem?_append_right (by rw [h.len]; exact Nat.le_refl _), h.len, Nat.sub_self]
      rfl
    rw [e1]
    exact hr
theorem TitL.done {t : List UInt8} {fin : Nat → Bool} {A : List Pc} (h : TitL (pcsOf 0 fin t) (pcsOf 0 fin t).length A) : ∃ ch, A = pcs (encT ch fin) t t.length 0 0 := by
  refine ⟨fun j => decide (A.getD j pc0 ≠ (pcsOf 0 fin t).getD j pc0), tit_pcs _ fin t t.length 0 0 A h.len fun j hj => ?_⟩
  have hr := h.rel j (by rw [← h.len]; exact hj)
  rw [Nat.zero_add]
  by_cases c : A.getD j pc0 = (pcsOf 0 fin t).getD j pc0
  · exact .inl ⟨decide_eq_false (fun h => h c), c⟩
  · refine .inr ⟨decide_eq_true c, ?_⟩
    rcases hr with h1 | h1
    · exact absurd h1 c
    · exact h1
end
end Go.Proofs.YtnfghboholehdaaGreatDoor.foldOnce
