/- FoldCompares, walked: the document's Fold, Edges, Begins; Begins; the law itself, where open, New and live are given. -/
import Derived.Test.YtnfghboholehdaaGreatDoorFE
import Derived.IntWalk
namespace Go.Proofs.YtnfghboholehdaaGreatDoor.foldCompares
section
open Go.Shelf Go.RowKit Go.Lib Go.Proofs.YtnfghboholehdaaGreatDoor.Am
set_option maxRecDepth 100000 in
theorem BFold_ok (t : List UInt8) (v : Value) (W : World) (h : BookP W v) (hn : t.length ≤ 10000) : Calls Tryz.prog 15 #[v, .string ⟨t.toArray⟩] W (WrPost 3 t W) := by
 have HW := Lib.hid (BWrite_ok t 3 (by decide) (by decide) v W h hn)
 go_enter Tryz.func15, Tryz.ntmps15
 go_wp2_with (go_at_call 16; refine HW.out.mono ?_; rintro e w1 ⟨va, rfl, hown, hb⟩; have HB := Lib.hid hb; clear hb hown)
 go_ret
 exact ⟨rfl, HB.out⟩
/-- the edges of a text -/
def edgesL (t : List UInt8) : List Int := (mk4s t).map (fun m => (m.1 : Int)) ++ [(t.length : Int)]
def EdgesPost (t : List UInt8) (W : World) (e : Ending) (w' : World) : Prop := ∃ v, e = .returned v ∧ w'.ownsRow W.heap.size 3 1 v (edgesL t).length (intsW (edgesL t)) ∧ Below W.heap.size W w'
set_option maxRecDepth 100000 in
set_option maxHeartbeats 4000000 in
theorem Edges_ok (t : List UInt8) (W : World) (hn : t.length ≤ 10000) : Calls Tryz.prog 47 #[.string ⟨t.toArray⟩] W (EdgesPost t W) := by
 have HMK := Lib.hid (Marks_ok t W (by omega))
 obtain ⟨s, hs⟩ : ∃ s : ByteArray, (⟨t.toArray⟩ : ByteArray) = s := ⟨_, rfl⟩
 have hss : s.size = t.length := size_mk t s hs
 rw [hs] at HMK ⊢
 obtain ⟨M, hM⟩ : ∃ M, mk4s t = M := ⟨_, rfl⟩
 have HML := Lib.hid (show M.length ≤ 10000 by rw [← hM]; exact Nat.le_trans (mk4_len t t.length 0) hn)
 have HED := Lib.hid (show edgesL t = M.map (fun m => (m.1 : Int)) ++ [(s.size : Int)] by unfold edgesL; rw [hM, hss])
 have HMQ := Lib.hid hM
 clear hs hss hn hM
 obtain ⟨i0, hI0, hz0, hz1, hz2⟩ := info_parts int_info
 go_enter Tryz.func47, Tryz.ntmps47
 go_wp2_with (go_at_call 41; refine HMK.out.mono ?_; rintro e w1 ⟨vm, rfl, hown, hb⟩; rw [HMQ.out] at hown; obtain ⟨Am, cm, rfl, _⟩ := own_slice3 hown; have HOM := Lib.hid hown; have HB1 := Lib.hid hb; clear hown hb)
 obtain ⟨N, hN⟩ : ∃ N, M.length = N := ⟨_, rfl⟩
 rw [hN] at HOM HML ⊢
 have HNN := Lib.hid hN; clear hN
 go_loopw [4, 5] (fun va vi wr => ∃ (i m c : Nat) (A : Option Addr), i ≤ N ∧ vi = .int .i64 i ∧ va = .slice A m c ∧ ((M.take i).map (fun m => (m.1 : Int))).length = m ∧ BWL W w1 (.slice A m c) ((M.take i).map (fun m => (m.1 : Int))) wr) (fun _ vi _ => N - (RowKit.intOf vi).toNat)
 case atStart => exact ⟨0, 0, 0, none, Nat.zero_le _, rfl, rfl, rfl, Below.refl _ _, ⟨rfl, .inl ⟨rfl, rfl⟩⟩⟩
 case round =>
  obtain ⟨i, m, c, A, hi, rfl, rfl, hm, hbw⟩ := hrel
  have hN4 := HML.out
  have hmi : m = i := by rw [← hm, List.length_map, List.length_take, HNN.out]; omega
  have HJ := Lib.hid hbw; have HM := Lib.hid hm
  have HO := Lib.hid (show wr.ownsRow w1.heap.size 3 1 (.slice A m c) m (intsW ((M.take i).map (fun m => (m.1 : Int)))) by have := hbw.own; rwa [hm] at this)
  have HLEN := Lib.hid (show m + 1 ≤ maxLen ∧ (m + 1) * 8 ≤ 140737488355328 by have := HML.out; exact ⟨by simp only [maxLen]; omega, by omega⟩)
  clear hbw hm hmi
  by_cases hlt : i < N
  ·obtain ⟨g, rfl⟩ := own_some HOM.out (by omega)
   have hg1 := (own_lt HOM.out (g := g) rfl).2.1
   have hc := World.ownsRow.cells (g := g) HOM.out rfl
   have hget := (marksW_get M i (by rw [HNN.out]; exact hlt)).1
   obtain ⟨x, hx⟩ : ∃ x, M.getD i mk0 = x := ⟨_, rfl⟩
   rw [hx] at hget
   have HTK := Lib.hid (take_mk M (i := i) (by rw [HNN.out]; exact hlt))
   rw [hx] at HTK
   have c0 := hc _ _ hget
   rw [add_none, Nat.zero_add] at c0
   have d0 : wr.cell? ⟨g, i * 4, none⟩ = some (.int .i64 x.1) := by rw [HJ.out.bel.cell (p := ⟨g, i * 4, none⟩) hg1]; exact c0
   clear hc hget hx c0 hg1
   obtain ⟨a, wd, r, bd⟩ := x
   dsimp only at d0
   have HT2 := Lib.hid (show (M.take (i + 1)).map (fun m => (m.1 : Int)) = (M.take i).map (fun m => (m.1 : Int)) ++ [(a : Int)] by rw [HTK.out, List.map_append]; rfl)
   go_wp2_with (at_builtin; refine wpList_app _ rfl (.tmp 14) (.tmp 20) 30 rfl w1.heap.size 3 i0 _ 8 Tryz.underlying30 hI0 hz0 hz1 hz2 rfl (.slice A m c) m (intsW ((M.take i).map (fun m => (m.1 : Int)))) rfl (own_alloc HO.out) _ 1 1 [.int .i64 (a : Int)] rfl (src_one _ _ _) (by simp [Value.oneCell']) HLEN.out.1 HLEN.out.2 (by rw [World.size_alloc]; have := HJ.out.bel.size; omega) ?_; intro v' wp ho hg hn; obtain ⟨A2, d2, rfl, _⟩ := own_slice3 ho; have HJG := Lib.hid (HJ.out.grown HM.out ho hg); clear ho hg hn)
   go_roundw
   case rel => exact ⟨i + 1, m + 1, d2, A2, hlt, by go_num, rfl, by rw [HT2.out, List.length_append, HM.out]; rfl, by rw [HT2.out]; exact HJG.out⟩
   case measure => simp [RowKit.intOf]; omega
  ·obtain rfl : i = N := by omega
   have htk : M.take i = M := List.take_of_length_le (by rw [HNN.out]; exact Nat.le_refl _)
   rw [htk] at HM HJ HO
   clear htk
   go_wp2_with (at_builtin; refine wpList_app _ rfl (.tmp 22) (.tmp 25) 30 rfl w1.heap.size 3 i0 _ 8 Tryz.underlying30 hI0 hz0 hz1 hz2 rfl (.slice A m c) m (intsW (M.map (fun m => (m.1 : Int)))) rfl (own_alloc HO.out) _ 1 1 [.int .i64 (s.size : Int)] rfl (src_one _ _ _) (by simp [Value.oneCell']) HLEN.out.1 HLEN.out.2 (by rw [World.size_alloc]; have := HJ.out.bel.size; omega) ?_; intro v' wp ho hg hn; obtain ⟨A2, d2, rfl, _⟩ := own_slice3 ho; have HJG := Lib.hid (HJ.out.grown HM.out ho hg); clear ho hg hn)
   go_ret
   have h1 := HJG.out.own
   have h2 : (M.map (fun m => (m.1 : Int)) ++ [(s.size : Int)]).length = m + 1 := by rw [List.length_append, HM.out]; rfl
   refine ⟨.slice A2 (m + 1) d2, rfl, ?_, HB1.out.trans (HJG.out.bel.mono HB1.out.size)⟩
   rw [HED.out]
   exact own_base h1 (fun g hg => Nat.le_trans HB1.out.size (own_lt h1 hg).1)
end
section
open Go.Shelf Go.RowKit Go.Lib Go.Proofs.YtnfghboholehdaaGreatDoor.Am
open Folds (dec dec_pos dec_le dec_app wrt wrt_step)
/-- where the rune of a number begins -/
def posOf (l : List UInt8) : Nat → Nat
 | 0 => 0
 | k + 1 => if l = [] then 0 else (dec l).2 + posOf (l.drop (dec l).2) k
theorem posOf_le (l : List UInt8) (k : Nat) : posOf l k ≤ l.length := by
 induction k generalizing l with
 | zero => exact Nat.zero_le _
 | succ k ih =>
  show (if l = [] then 0 else (dec l).2 + posOf (l.drop (dec l).2) k) ≤ _
  split
  ·exact Nat.zero_le _
  ·rename_i h
   have h1 := ih (l.drop (dec l).2)
   have h2 := dec_le l h
   rw [List.length_drop] at h1
   omega
theorem wrt_pos (enc : Nat → List UInt8) (k : Nat) : ∀ l : List UInt8, wrt enc (l.take (posOf l k)) = Folds.out enc k l := by
 induction k with
 | zero => intro l; rfl
 | succ k ih =>
  intro l
  show wrt enc (l.take (if l = [] then 0 else (dec l).2 + posOf (l.drop (dec l).2) k)) = (if l = [] then [] else _)
  by_cases h : l = []
  ·rw [if_pos h, if_pos h]; rfl
  ·rw [if_neg h, if_neg h]
   obtain ⟨p, hp⟩ : ∃ p, posOf (l.drop (dec l).2) k = p := ⟨_, rfl⟩
   have hle := posOf_le (l.drop (dec l).2) k
   rw [hp, List.length_drop] at hle
   have hw := dec_le l h
   have hw1 := dec_pos l
   have hne : l.take ((dec l).2 + p) ≠ [] := by
    intro hh
    have : (l.take ((dec l).2 + p)).length = 0 := by rw [hh]; rfl
    rw [List.length_take] at this
    omega
   have hd : dec (l.take ((dec l).2 + p)) = dec l := by
    have h1 := dec_app (l.take ((dec l).2 + p)) (l.drop ((dec l).2 + p)) hne (by rw [List.take_append_drop, List.length_take]; omega)
    rw [List.take_append_drop] at h1
    exact h1.symm
   rw [hp, wrt_step enc _ hne, hd]
   have h1 : Folds.one enc (l.take ((dec l).2 + p)) = Folds.one enc l := by
    unfold Folds.one
    rw [hd, List.take_take, Nat.min_eq_left (by omega)]
   rw [h1, List.drop_take, Nat.add_sub_cancel_left, ← hp, ih]
theorem mk4_pos (t : List UInt8) : ∀ n e k, k < (mk4 t n e).length → ((mk4 t n e).getD k mk0).1 = e + posOf (t.drop e) k
 | 0, _, k, h => by cases h
 | n + 1, e, k, h => by
  have e1 : mk4 t (n + 1) e = if e < t.length then (e, (dec (t.drop e)).2, (dec (t.drop e)).1, ((dec (t.drop e)).2 : Int) == 1 && ((dec (t.drop e)).1 : Int) == 65533) :: mk4 t n (e + (dec (t.drop e)).2) else [] := rfl
  rw [e1] at h ⊢
  by_cases c : e < t.length
  ·rw [if_pos c] at h ⊢
   cases k with
   | zero => rfl
   | succ k =>
    have hne : t.drop e ≠ [] := by intro d; rw [List.drop_eq_nil_iff] at d; omega
    have := mk4_pos t n (e + (dec (t.drop e)).2) k (by simpa using h)
    show ((mk4 t n (e + (dec (t.drop e)).2)).getD k mk0).1 = e + (if t.drop e = [] then 0 else _)
    rw [if_neg hne, this, List.drop_drop]
    omega
  ·rw [if_neg c] at h; cases h
theorem pos_end (t : List UInt8) : ∀ n e, e ≤ t.length → t.length - e ≤ n → e + posOf (t.drop e) (mk4 t n e).length = t.length
 | 0, e, h, h2 => by show e + 0 = _; omega
 | n + 1, e, h, h2 => by
  have e1 : mk4 t (n + 1) e = if e < t.length then (e, (dec (t.drop e)).2, (dec (t.drop e)).1, ((dec (t.drop e)).2 : Int) == 1 && ((dec (t.drop e)).1 : Int) == 65533) :: mk4 t n (e + (dec (t.drop e)).2) else [] := rfl
  rw [e1]
  by_cases c : e < t.length
  ·rw [if_pos c]
   have hne : t.drop e ≠ [] := by intro d; rw [List.drop_eq_nil_iff] at d; omega
   have hw := dec_le (t.drop e) hne
   have hp := dec_pos (t.drop e)
   rw [List.length_drop] at hw
   have := pos_end t n (e + (dec (t.drop e)).2) (by omega) (by omega)
   show e + (if t.drop e = [] then 0 else _) = _
   rw [if_neg hne, List.drop_drop]
   omega
  ·rw [if_neg c]
   show e + 0 = _
   omega
theorem edges_pos (t : List UInt8) (k : Nat) (h : k ≤ (mk4s t).length) : (edgesL t).getD k 0 = (posOf t k : Int) := by
 unfold edgesL
 rw [List.getD_eq_getElem?_getD]
 rcases Nat.lt_or_ge k (mk4s t).length with c | c
 ·rw [List.getElem?_append_left (by rw [List.length_map]; exact c), List.getElem?_map, List.getElem?_eq_getElem c]
  have := mk4_pos t t.length 0 k c
  rw [List.getD_eq_getElem?_getD, List.getElem?_eq_getElem (show k < (mk4 t t.length 0).length from c), List.drop_zero, Nat.zero_add] at this
  show (((mk4s t)[k].1 : Nat) : Int) = _
  exact congrArg _ this
 ·obtain rfl : k = (mk4s t).length := by omega
  rw [List.getElem?_append_right (by rw [List.length_map]; exact Nat.le_refl _), List.length_map, Nat.sub_self]
  have := pos_end t t.length 0 (Nat.zero_le _) (by omega)
  rw [Nat.zero_add, List.drop_zero] at this
  show (t.length : Int) = _
  rw [← this]
  rfl
theorem edges_len (t : List UInt8) : (edgesL t).length = (mk4s t).length + 1 := by unfold edgesL; rw [List.length_append, List.length_map]; rfl
/-- what is written for so many runes -/
def hv (s : List UInt8) (k : Nat) : List UInt8 := Folds.out (fun r => encL (formV r 3)) k s
theorem hv_wr (s : List UInt8) (k : Nat) : wr 3 (s.take (posOf s k)) = hv s k := wrt_pos _ k s
/-- how far a text begins with another -/
def begF (s t : List UInt8) : Int × Bool := match (List.range ((mk4s s).length + 1)).find? (fun k => decide (hv s k = wr 3 t)) with
 | some k => ((posOf s k : Int), true)
 | none => (0, false)
theorem begF_some (s t : List UInt8) (k : Nat) (hk : k ≤ (mk4s s).length) (h1 : ∀ j, j < k → hv s j ≠ wr 3 t) (h2 : hv s k = wr 3 t) : begF s t = ((posOf s k : Int), true) := by
 unfold begF
 have : (List.range ((mk4s s).length + 1)).find? (fun k => decide (hv s k = wr 3 t)) = some k := by
  rw [List.find?_range_eq_some]
  exact ⟨decide_eq_true h2, List.mem_range.2 (by omega), fun j hj => by simpa using h1 j hj⟩
 rw [this]
theorem begF_none (s t : List UInt8) (h : ∀ j, j ≤ (mk4s s).length → hv s j ≠ wr 3 t) : begF s t = (0, false) := by
 unfold begF
 have : (List.range ((mk4s s).length + 1)).find? (fun k => decide (hv s k = wr 3 t)) = none := by
  rw [List.find?_eq_none]
  intro j hj
  have := List.mem_range.1 hj
  simpa using h j (by omega)
 rw [this]
end
section
open Go.Shelf Go.RowKit Go.Lib Go.Proofs.YtnfghboholehdaaGreatDoor.Am
open Folds (dec dec_pos dec_le)
def BegPost (s t : List UInt8) (W : World) (e : Ending) (w' : World) : Prop := e = .returned (.tuple #[.int .i64 (begF s t).1, .bool (begF s t).2]) ∧ Below W.heap.size W w'
set_option maxRecDepth 100000 in
set_option maxHeartbeats 4000000 in
theorem BBegins_ok (s t : List UInt8) (v : Value) (W : World) (h : BookP W v) (hs : s.length ≤ 10000) (ht : t.length ≤ 10000) : Calls Tryz.prog 13 #[v, .string ⟨s.toArray⟩, .string ⟨t.toArray⟩] W (BegPost s t W) := by
 have HED := Lib.hid (Edges_ok s W hs)
 have HFT := Lib.hid (fun w (hb : BookP w v) => BFold_ok t v w hb ht)
 have HFS := Lib.hid (fun (p : Nat) w (hb : BookP w v) => BFold_ok (s.take p) v w hb (by rw [List.length_take]; omega))
 obtain ⟨S, hS⟩ : ∃ S : ByteArray, (⟨s.toArray⟩ : ByteArray) = S := ⟨_, rfl⟩
 obtain ⟨T, hT⟩ : ∃ T : ByteArray, (⟨t.toArray⟩ : ByteArray) = T := ⟨_, rfl⟩
 have hss : S.size = s.length := size_mk s S hS
 rw [hS] at HED ⊢
 rw [hT] at HFT ⊢
 have HSS := Lib.hid hss; have HS := Lib.hid hS; have HB := Lib.hid h; have HN := Lib.hid hs
 clear hS hT hss h hs ht
 obtain ⟨E, hE⟩ : ∃ E, (edgesL s).length = E := ⟨_, rfl⟩
 have HE1 := Lib.hid (show E = (mk4s s).length + 1 by rw [← hE]; exact edges_len s)
 have HE2 := Lib.hid (show E ≤ 10001 by rw [HE1.out]; have := mk4_len s s.length 0; have := HN.out; unfold mk4s; omega)
 have HEE := Lib.hid hE; clear hE
 obtain ⟨WT, hWT⟩ : ∃ WT : ByteArray, (⟨(wr 3 t).toArray⟩ : ByteArray) = WT := ⟨_, rfl⟩
 have HWT := Lib.hid hWT; clear hWT
 obtain ⟨rt, hrt⟩ : ∃ rt, wr 3 t = rt := ⟨_, rfl⟩
 have HWT2 := Lib.hid (show (⟨rt.toArray⟩ : ByteArray) = WT by rw [← hrt]; exact HWT.out)
 have HRT := Lib.hid hrt; clear hrt
 have HFV := Lib.hid (fun i => hv_wr s i)
 have HFC0 := Lib.hid (fun (i : Nat) (w : World) (hb : BookP w v) => show Calls Tryz.prog 15 #[v, .string ⟨(s.take (posOf s i)).toArray⟩] w fun e w' => e = .returned (.string ⟨(hv s i).toArray⟩) ∧ Below w.heap.size w w' from (HFS.out (posOf s i) w hb).mono fun e w' ⟨h1, h2⟩ => ⟨by rw [h1, HFV.out i], h2⟩)
 clear HFS HFV
 go_enter Tryz.func13, Tryz.ntmps13
 go_wp2_with (first
  | (go_at_call 47; refine HED.out.mono ?_; rintro e w1 ⟨v8, rfl, hown, hb⟩; rw [HEE.out] at hown; obtain ⟨A8, c8, rfl, _⟩ := own_slice3 hown; have HO := Lib.hid hown; have HB1 := Lib.hid hb; clear hown hb)
  | (go_at_call 15; refine (HFT.out _ (bookP_below HB.out HB1.out)).mono ?_; rintro e w2 ⟨rfl, hb⟩; rw [HWT.out]; have HB2 := Lib.hid hb; clear hb))
 obtain ⟨g, rfl⟩ := own_some HO.out (by have := HE1.out; omega)
 go_loopw [10] (fun vi wr => ∃ i : Nat, i ≤ E ∧ vi = .int .i64 i ∧ (∀ j, j < i → hv s j ≠ rt) ∧ Below w2.heap.size w2 wr) (fun vi _ => E - (RowKit.intOf vi).toNat)
 case atStart => exact ⟨0, Nat.zero_le _, rfl, fun j hj => absurd hj (Nat.not_lt_zero _), Below.refl _ _⟩
 case round =>
  obtain ⟨i, hi, rfl, hno, hb⟩ := hrel
  have HNO := Lib.hid hno; have HBW := Lib.hid hb; clear hno hb
  have hE2 := HE2.out
  have HW := Lib.hid (HB1.out.trans ((HB2.out.trans (HBW.out.mono HB2.out.size)).mono HB1.out.size))
  by_cases hlt : i < E
  ·have hg1 := (own_lt HO.out (g := g) rfl).2.1
   have hx := World.ownsRow.cells (g := g) HO.out rfl i (.int .i64 ((edgesL s).getD i 0)) (by
    unfold intsW
    rw [List.getElem?_map, List.getElem?_eq_getElem (by rw [HEE.out]; exact hlt), List.getD_eq_getElem?_getD, List.getElem?_eq_getElem (by rw [HEE.out]; exact hlt)]
    rfl)
   rw [add_none, Nat.zero_add, edges_pos s i (by have := HE1.out; omega)] at hx
   obtain ⟨p, hp⟩ : ∃ p, posOf s i = p := ⟨_, rfl⟩
   rw [hp] at hx
   have hple : p ≤ s.length := by rw [← hp]; exact posOf_le s i
   have d0 : wr.cell? ⟨g, i, none⟩ = some (.int .i64 (p : Int)) := by
    rw [(HB2.out.trans (HBW.out.mono HB2.out.size)).cell (p := ⟨g, i, none⟩) hg1]; exact hx
   obtain ⟨FB, hFB⟩ : ∃ FB : ByteArray, (⟨(hv s i).toArray⟩ : ByteArray) = FB := ⟨_, rfl⟩
   have HFC := Lib.hid (fun w (hb : BookP w v) => show Calls Tryz.prog 15 #[v, .string ⟨(s.take p).toArray⟩] w fun e w' => e = .returned (.string FB) ∧ Below w.heap.size w w' from by rw [← hp, ← hFB]; exact HFC0.out i w hb)
   have hsl : ∀ W, (Instr.slice 9 (.string S) none (some (.int .i64 (p : Int))) none).run Tryz.prog W = .ok (.string ⟨(s.take p).toArray⟩) W := fun W => by
    rw [run_slice_string_to_if _ _ _ _ _ Tryz.underlying9, if_pos ⟨Int.natCast_nonneg p, by have := HSS.out; omega⟩, Int.toNat_natCast, ← HS.out, ByteArray.extract_mk, Nat.sub_zero, List.drop_zero]
   have hbq : (FB.toList == WT.toList) = decide (hv s i = rt) := by rw [← hFB, ← HWT2.out]; exact str_beq _ _
   have HP := Lib.hid hp
   have hin : i ≤ (mk4s s).length := by have := HE1.out; omega
   have HIN := Lib.hid hin
   clear hx hg1 hp hple hFB hin
   by_cases he : hv s i = rt
   ·rw [decide_eq_true he] at hbq
    have HEQ := Lib.hid he; clear he
    go_wp2_with (go_at_call 15; refine (HFC.out _ (bookP_below HB.out HW.out)).mono ?_; rintro e w4 ⟨rfl, hb⟩; have HB4 := Lib.hid hb; clear hb; have d4 : w4.cell? ⟨g, i, none⟩ = some (.int .i64 (p : Int)) := (HB4.out.cell (p := ⟨g, i, none⟩) (cell_lt d0)).trans d0)
    go_ret2
    refine ⟨?_, HW.out.trans (HB4.out.mono HW.out.size)⟩
    rw [begF_some s t i HIN.out (by rw [HRT.out]; exact HNO.out) (by rw [HRT.out]; exact HEQ.out), HP.out]
    rfl
   ·rw [decide_eq_false he] at hbq
    have HNX := Lib.hid (show ∀ j, j < i + 1 → hv s j ≠ rt from fun j hj => by
     rcases Nat.lt_or_ge j i with c | c
     ·exact HNO.out j c
     ·obtain rfl : j = i := by omega
      exact he)
    clear he
    go_wp2_with (go_at_call 15; refine (HFC.out _ (bookP_below HB.out HW.out)).mono ?_; rintro e w4 ⟨rfl, hb⟩; have HB4 := Lib.hid hb; clear hb)
    go_roundw
    case rel => exact ⟨i + 1, hlt, by go_num, HNX.out, HBW.out.trans (HB4.out.mono HBW.out.size)⟩
    case measure => simp [RowKit.intOf]; omega
  ·obtain rfl : i = E := by omega
   go_wp2_with fail
   go_ret2
   refine ⟨?_, HW.out⟩
   rw [begF_none s t (fun j hj => by rw [HRT.out]; exact HNO.out j (by have := HE1.out; omega))]
   rfl
end
section
open Go.Shelf Go.RowKit Go.Lib Go.Proofs.YtnfghboholehdaaGreatDoor.Am
open Folds (dec dec_pos dec_le)
theorem pcs_mk (enc : Nat → Nat → List UInt8) (t : List UInt8) : ∀ n i e, (pcs enc t n i e).map (fun p => p.1) = (mk4 t n e).map (fun m => m.1)
 | 0, _, _ => rfl
 | n + 1, i, e => by
  show (if e < t.length then _ else _ : List Pc).map _ = (if e < t.length then _ else _ : List Mk).map _
  split
  ·rw [List.map_cons, List.map_cons, pcs_mk enc t n]
  ·rfl
theorem pcs_take (enc : Nat → Nat → List UInt8) (e1 : Nat → List UInt8) (h : ∀ i r, enc i r = e1 r) (t : List UInt8) : ∀ n i e k, k ≤ n → catP ((pcs enc t n i e).take k) = Folds.out e1 k (t.drop e)
 | n, i, e, 0, _ => by rw [List.take_zero]; rfl
 | 0, _, _, k + 1, hk => absurd hk (by omega)
 | n + 1, i, e, k + 1, hk => by
  show catP ((if e < t.length then _ else _ : List Pc).take (k + 1)) = (if t.drop e = [] then _ else _)
  by_cases c : e < t.length
  ·have hne : t.drop e ≠ [] := by intro d; rw [List.drop_eq_nil_iff] at d; omega
   rw [if_pos c, if_neg hne, List.take_succ_cons]
   show _ ++ catP _ = _
   rw [pcs_take enc e1 h t n (i + 1) _ k (by omega), List.drop_drop]
   have : Folds.one (enc i) (t.drop e) = Folds.one e1 (t.drop e) := by unfold Folds.one; rw [h]
   rw [← this]
  ·rw [if_neg c, if_pos (by rw [List.drop_eq_nil_iff]; omega)]
   rfl
def pF (s : List UInt8) : List Pc := pcsOf 3 (fun _ => false) s
theorem pF_len (s : List UInt8) : (pF s).length = (mk4s s).length := by
 have := congrArg List.length (pcs_mk (encW 3 fun _ => false) s s.length 0 0)
 rw [List.length_map, List.length_map] at this
 exact this
theorem pF_at (s : List UInt8) (k : Nat) (h : k < (pF s).length) : ((pF s).getD k pc0).1 = posOf s k := by
 have h2 : k < (mk4s s).length := by rw [← pF_len]; exact h
 have h1 := mk4_pos s s.length 0 k h2
 rw [Nat.zero_add, List.drop_zero] at h1
 rw [← h1]
 have hm := congrArg (fun l => l[k]?) (pcs_mk (encW 3 fun _ => false) s s.length 0 0)
 rw [List.getElem?_map, List.getElem?_map] at hm
 rw [List.getD_eq_getElem?_getD, List.getD_eq_getElem?_getD]
 unfold pF pcsOf
 unfold pF pcsOf at h
 unfold mk4s at h2
 rw [List.getElem?_eq_getElem h, List.getElem?_eq_getElem h2] at hm ⊢
 simpa using hm
theorem pF_hv (s : List UInt8) (k : Nat) (h : k ≤ (pF s).length) : catP ((pF s).take k) = hv s k := by
 unfold pF pcsOf hv
 rw [pcs_take (encW 3 fun _ => false) (fun r => encL (formV r 3)) (fun i r => by unfold encW; rw [if_neg (fun h => absurd h.1.1 (by decide))]) s s.length 0 0 k (by
  have := (pcs_len (encW 3 fun _ => false) (encW_len 3 _) s s.length 0 0).2
  unfold pF pcsOf at h
  omega), List.drop_zero]
theorem hv_mono (s : List UInt8) (k j : Nat) (h : k ≤ j) (hj : j ≤ (pF s).length) : (hv s k).length ≤ (hv s j).length := by
 rw [← pF_hv s k (by omega), ← pF_hv s j hj]
 have : (pF s).take k = ((pF s).take j).take k := by rw [List.take_take, Nat.min_eq_left h]
 rw [this]
 exact catP_le _ _
theorem hv_len (s : List UInt8) (k : Nat) (hk : k ≤ (pF s).length) : (hv s k).length ≤ 12 * s.length := by
 rw [← pF_hv s k hk]
 exact Nat.le_trans (catP_le _ _) (pcs_len (encW 3 fun _ => false) (encW_len 3 _) s s.length 0 0).1
theorem pos_all (s : List UInt8) : posOf s (pF s).length = s.length := by
 have := pos_end s s.length 0 (Nat.zero_le _) (by omega)
 rw [Nat.zero_add, List.drop_zero] at this
 rw [pF_len]
 exact this
set_option maxRecDepth 100000 in
set_option maxHeartbeats 4000000 in
theorem PBegins_ok (s t : List UInt8) (W : World) (ho : OpensP W) (hT : Lib.Utf8Tabs 0 1 W) (hs : s.length ≤ 10000) (ht : t.length ≤ 10000) : Calls Tryz.prog 12 #[.string ⟨s.toArray⟩, .string ⟨t.toArray⟩] W (BegPost s t W) := by
 have HW1 := Lib.hid (fun (v : Value) (w : World) (h : OpenP w v) (hb : Below W.heap.size W w) => write_pos t 3 (by decide) (by decide) (fun _ => false) v w h (tabs_below hb hT) (by omega))
 have HW2 := Lib.hid (fun (v : Value) (w : World) (h : OpenP w v) (hb : Below W.heap.size W w) => write_pos s 3 (by decide) (by decide) (fun _ => false) v w h (tabs_below hb hT) (by omega))
 have HLT := Lib.hid (pcs_len (encW 3 fun _ => false) (encW_len 3 _) t t.length 0 0)
 have HCT := Lib.hid (show catP (pcsOf 3 (fun _ => false) t) = wr 3 t from catP_wr 3 (by decide) _ t)
 obtain ⟨S, hS⟩ : ∃ S : ByteArray, (⟨s.toArray⟩ : ByteArray) = S := ⟨_, rfl⟩
 obtain ⟨T, hTt⟩ : ∃ T : ByteArray, (⟨t.toArray⟩ : ByteArray) = T := ⟨_, rfl⟩
 have HSS := Lib.hid (size_mk s S hS)
 rw [hS] at HW2 ⊢
 rw [hTt] at HW1 ⊢
 obtain ⟨rt, hrt⟩ : ∃ rt, wr 3 t = rt := ⟨_, rfl⟩
 obtain ⟨WT, hWT⟩ : ∃ WT : ByteArray, (⟨rt.toArray⟩ : ByteArray) = WT := ⟨_, rfl⟩
 have HWS := Lib.hid (size_mk rt WT hWT)
 rw [hrt] at HCT
 have HWT := Lib.hid hWT; have HRT := Lib.hid hrt
 have HO := Lib.hid ho; have HNS := Lib.hid hs; have HNT := Lib.hid ht
 clear hS hTt hrt hWT ho hs ht hT
 obtain ⟨n, hn⟩ : ∃ n, (pF s).length = n := ⟨_, rfl⟩
 have HNN := Lib.hid hn
 have HN4 := Lib.hid (show n ≤ 10000 by rw [← hn, pF_len]; have := mk4_len s s.length 0; have := HNS.out; unfold mk4s; omega)
 have HHL := Lib.hid (fun k (hk : k ≤ n) => hv_len s k (by rw [hn]; exact hk))
 clear hn
 go_enter Tryz.func12, Tryz.ntmps12
 go_wp2_with (first
  | (go_at_call 28; refine HO.out.mono ?_; rintro e w1 ⟨v, rfl, h1, h2⟩; have H1 := Lib.hid h1; have B1 := Lib.hid h2; clear h1 h2)
  | (go_at_call 29; refine (HW1.out _ _ H1.out B1.out).mono ?_; rintro e w2 ⟨v2, rfl, hown, h2⟩; clear HW1; have OW := Lib.hid hown; have HP2 := Lib.hid (openP_below H1.out h2); have B2 := Lib.hid (B1.out.trans (h2.mono B1.out.size)); clear hown h2)
  | (go_at_call 35; refine (joined_ok _ _ _ _ OW.out (Nat.le_trans HLT.out.2 (Nat.le_trans HNT.out (by decide))) (Nat.le_trans HLT.out.1 (by have := HNT.out; omega))).mono ?_; rintro e w3 ⟨rfl, h3⟩; rw [HCT.out, HWT.out]; have HP3 := Lib.hid (openP_below HP2.out h3); have B3 := Lib.hid (B2.out.trans (h3.mono B2.out.size)); clear h3)
  | (go_at_call 29; refine (HW2.out _ _ HP3.out B3.out).mono ?_; rintro e w4 ⟨v4, rfl, hown, h2⟩; obtain ⟨A4, c4, rfl, _⟩ := own_slice3 hown; rw [show (pcsOf 3 (fun _ => false) s).length = n from HNN.out] at hown ⊢; have OS := Lib.hid hown; have B4 := Lib.hid (B3.out.trans (h2.mono B3.out.size)); clear hown h2))
 go_loopw [8, 20] (fun vh vi wq => ∃ k : Nat, k ≤ n ∧ vi = .int .i64 k ∧ vh = .string ⟨(hv s k).toArray⟩ ∧ (∀ j, j < k → hv s j ≠ rt) ∧ Below w4.heap.size w4 wq) (fun _ vi _ => n - (RowKit.intOf vi).toNat)
 case atStart => exact ⟨0, Nat.zero_le _, rfl, rfl, fun j hj => absurd hj (Nat.not_lt_zero _), Below.refl _ _⟩
 case round =>
  obtain ⟨k, hk, rfl, rfl, hno, hb⟩ := hrel
  have HNO := Lib.hid hno; have HBW := Lib.hid hb; clear hno hb
  have HW := Lib.hid (B4.out.trans (HBW.out.mono B4.out.size))
  have hn4 := HN4.out
  obtain ⟨HVB, hHV⟩ : ∃ HVB : ByteArray, (⟨(hv s k).toArray⟩ : ByteArray) = HVB := ⟨_, rfl⟩
  have hvs : HVB.size = (hv s k).length := size_mk _ _ hHV
  have hvl := HHL.out k hk
  have hbq : (HVB.toList == WT.toList) = decide (hv s k = rt) := by rw [← hHV, ← HWT.out]; exact str_beq _ _
  have HHV := Lib.hid hHV
  rw [hHV]
  clear hHV
  by_cases hlt : k < n
  ·obtain ⟨g, rfl⟩ := own_some OS.out (by omega)
   have hg1 := (own_lt OS.out (g := g) rfl).2.1
   have hc := World.ownsRow.cells (g := g) OS.out rfl
   have hkl : k < (pF s).length := by rw [HNN.out]; exact hlt
   obtain ⟨f0, f1, f2⟩ := piecesV_get (pF s) k hkl
   have c0 := hc _ _ f0; have c1 := hc _ _ f1; have c2 := hc _ _ f2
   rw [add_none, Nat.zero_add] at c0 c1 c2
   rw [pF_at s k hkl] at c0
   have htk := catP_take (pF s) hkl
   rw [pF_hv s k (by omega), pF_hv s (k + 1) (by omega)] at htk
   obtain ⟨p, hp⟩ : ∃ p, (pF s).getD k pc0 = p := ⟨_, rfl⟩
   rw [hp] at c1 c2 htk
   obtain ⟨pa, pr, px⟩ := p
   dsimp only at c1 c2 htk
   have d0 : wr.cell? ⟨g, k * 3, none⟩ = some (.int .i64 (posOf s k)) := (HBW.out.cell (p := ⟨g, k * 3, none⟩) hg1).trans c0
   have d1 : wr.cell? ⟨g, k * 3 + 1, none⟩ = some (.int .i32 pr) := (HBW.out.cell (p := ⟨g, k * 3 + 1, none⟩) hg1).trans c1
   have d2 : wr.cell? ⟨g, k * 3 + 2, none⟩ = some (.string ⟨px.toArray⟩) := (HBW.out.cell (p := ⟨g, k * 3 + 2, none⟩) hg1).trans c2
   obtain ⟨PX, hPX⟩ : ∃ PX : ByteArray, (⟨px.toArray⟩ : ByteArray) = PX := ⟨_, rfl⟩
   rw [hPX] at d2
   have hpl : PX.size = px.length := size_mk _ _ hPX
   have hnl := HHL.out (k + 1) (by omega)
   have hlen2 : (hv s (k + 1)).length = (hv s k).length + px.length := by rw [htk, List.length_append]
   have hov : ¬ 9223372036854775807 < HVB.size + PX.size := by have := HNS.out; omega
   have HAP := Lib.hid (show HVB ++ PX = ⟨(hv s (k + 1)).toArray⟩ by rw [← HHV.out, ← hPX, ba_app, htk])
   have HKN := Lib.hid (show k ≤ (mk4s s).length by rw [← pF_len]; omega)
   have HMONO := Lib.hid (fun j (h1 : k ≤ j) (h2 : j ≤ (pF s).length) => hv_mono s k j h1 h2)
   have HVS := Lib.hid hvs
   obtain ⟨q, hq⟩ : ∃ q, posOf s k = q := ⟨_, rfl⟩
   rw [hq] at d0
   have HQ := Lib.hid hq
   clear hc f0 f1 f2 c0 c1 c2 htk hp hPX hpl hnl hlen2 hkl hg1 hvl hvs hq
   by_cases he : hv s k = rt
   ·rw [decide_eq_true he] at hbq
    have HEQ := Lib.hid he; clear he
    go_wp2_with fail
    go_ret2
    refine ⟨?_, HW.out.alloc HW.out.size _⟩
    rw [begF_some s t k HKN.out (by rw [HRT.out]; exact HNO.out) (by rw [HRT.out]; exact HEQ.out), HQ.out]
    rfl
   ·rw [decide_eq_false he] at hbq
    have HNE := Lib.hid he; clear he
    by_cases hlg : WT.size < HVB.size
    ·have HLG := Lib.hid hlg
     go_wp2_with fail
     go_ret2
     refine ⟨?_, HW.out.alloc HW.out.size _⟩
     rw [begF_none s t (fun j hj => by
      rw [HRT.out]
      rcases Nat.lt_or_ge j k with c | c
      ·exact HNO.out j c
      ·intro hh
       have h1 := HMONO.out j c (by rw [pF_len]; exact hj)
       have h2 := HLG.out
       rw [HVS.out, HWS.out] at h2
       rw [hh] at h1
       omega)]
     rfl
    ·have HNX := Lib.hid (show ∀ j, j < k + 1 → hv s j ≠ rt from fun j hj => by
      rcases Nat.lt_or_ge j k with c | c
      ·exact HNO.out j c
      ·obtain rfl : j = k := by omega
       exact HNE.out)
     go_wp2_with fail
     go_roundw
     case rel => exact ⟨k + 1, hlt, by go_num, by rw [HAP.out], HNX.out, HBW.out.alloc HBW.out.size _⟩
     case measure => simp [RowKit.intOf]; omega
  ·obtain rfl : k = n := by omega
   have HKN := Lib.hid (show k = (mk4s s).length by rw [← pF_len]; exact HNN.out.symm)
   have HPE := Lib.hid (show posOf s k = S.size by rw [HSS.out, ← HNN.out]; exact pos_all s)
   clear hvl hvs
   by_cases he : hv s k = rt
   ·rw [decide_eq_true he] at hbq
    have HEQ := Lib.hid he; clear he
    go_wp2_with fail
    go_ret2
    refine ⟨?_, HW.out⟩
    rw [begF_some s t k (Nat.le_of_eq HKN.out) (by rw [HRT.out]; exact HNO.out) (by rw [HRT.out]; exact HEQ.out), HPE.out]
    rfl
   ·rw [decide_eq_false he] at hbq
    have HNE := Lib.hid he; clear he
    go_wp2_with fail
    go_ret2
    refine ⟨?_, HW.out⟩
    rw [begF_none s t (fun j hj => by
     rw [HRT.out]
     rcases Nat.lt_or_ge j k with c | c
     ·exact HNO.out j c
     ·obtain rfl : j = k := by have := HKN.out; omega
      exact HNE.out)]
    rfl
end
section
open Go.Shelf Go.RowKit Go.Lib Go.Proofs.YtnfghboholehdaaGreatDoor.Am
/-- what live() is to do -/
def Lives (w : World) : Prop := Calls Tryz.prog 8 #[] w fun e w' => e = .returned (.bool true) ∧ Below w.heap.size w w'
/-- what kerfref19.New() is to do -/
def NewB (w : World) : Prop := Calls Tryz.prog 10 #[] w fun e w' => ∃ v, e = .returned v ∧ BookP w' v ∧ Below w.heap.size w w'
def LawPost (W : World) (e : Ending) (w' : World) : Prop := e = .returned (.bool true) ∧ Below W.heap.size W w'
def L (s : ByteArray) : List UInt8 := s.data.toList
theorem mk_L (s : ByteArray) : (⟨(L s).toArray⟩ : ByteArray) = s := by cases s; simp [L]
theorem L_len (s : ByteArray) : (L s).length = s.size := by rw [← size_mk (L s) _ rfl, mk_L]
set_option maxRecDepth 100000 in
theorem comp_long (s t : ByteArray) (hs : s.size ≤ 140737488355328) (ht : t.size ≤ 140737488355328) (h : 80 < s.size + t.size) (W : World) (hlive : Lives W) : Calls Tryz.prog 4 #[.string s, .string t] W (LawPost W) := by
 have HL := Lib.hid hlive
 clear hlive
 go_enter Tryz.func4, Tryz.ntmps4
 go_wp2_with (go_at_call 8; refine HL.out.mono ?_; rintro e w1 ⟨rfl, hb⟩; have HB := Lib.hid hb; clear hb)
 all_goals go_ret
 all_goals exact ⟨rfl, HB.out⟩
set_option maxRecDepth 100000 in
set_option maxHeartbeats 4000000 in
theorem comp_short (s t : List UInt8) (S T : ByteArray) (hS : (⟨s.toArray⟩ : ByteArray) = S) (hT2 : (⟨t.toArray⟩ : ByteArray) = T) (h : S.size + T.size ≤ 80) (W : World) (hO : ∀ w, Below W.heap.size W w → OpensP w) (hT : Lib.Utf8Tabs 0 1 W) (hN : ∀ w, Below W.heap.size W w → NewB w) (hlive : ∀ w, Below W.heap.size W w → Lives w) :
 Calls Tryz.prog 4 #[.string S, .string T] W (LawPost W) := by
 have l1 : s.length ≤ 80 := by rw [← size_mk s S hS]; omega
 have l2 : t.length ≤ 80 := by rw [← size_mk t T hT2]; omega
 obtain ⟨b1, hb1⟩ : ∃ b1, (begF s t).1 = b1 := ⟨_, rfl⟩
 obtain ⟨b2, hb2⟩ : ∃ b2, (begF s t).2 = b2 := ⟨_, rfl⟩
 obtain ⟨q, hq⟩ : ∃ q, decide (wr 3 s = wr 3 t) = q := ⟨_, rfl⟩
 obtain ⟨FS, hFS⟩ : ∃ FS : ByteArray, (⟨(wr 3 s).toArray⟩ : ByteArray) = FS := ⟨_, rfl⟩
 obtain ⟨FT, hFT⟩ : ∃ FT : ByteArray, (⟨(wr 3 t).toArray⟩ : ByteArray) = FT := ⟨_, rfl⟩
 have HBG := Lib.hid (fun w (hb : Below W.heap.size W w) => show Calls Tryz.prog 12 #[.string S, .string T] w fun e w' => e = .returned (.tuple #[.int .i64 b1, .bool b2]) ∧ Below w.heap.size w w' from by
  rw [← hS, ← hT2, ← hb1, ← hb2]
  exact PBegins_ok s t w (hO w hb) (tabs_below hb hT) (by omega) (by omega))
 have HDB := Lib.hid (fun v w (hv : BookP w v) => show Calls Tryz.prog 13 #[v, .string S, .string T] w fun e w' => e = .returned (.tuple #[.int .i64 b1, .bool b2]) ∧ Below w.heap.size w w' from by
  rw [← hS, ← hT2, ← hb1, ← hb2]
  exact BBegins_ok s t v w hv (by omega) (by omega))
 have HEQ := Lib.hid (fun w (hb : Below W.heap.size W w) => show Calls Tryz.prog 14 #[.string S, .string T] w fun e w' => e = .returned (.bool q) ∧ Below w.heap.size w w' from by
  rw [← hS, ← hT2, ← hq]
  exact Equal_ok s t w (fun w' h' => hO w' (hb.trans (h'.mono hb.size))) (tabs_below hb hT) (by omega) (by omega))
 have HF1 := Lib.hid (fun v w (hv : BookP w v) => show Calls Tryz.prog 15 #[v, .string S] w fun e w' => e = .returned (.string FS) ∧ Below w.heap.size w w' from by
  rw [← hS, ← hFS]; exact BFold_ok s v w hv (by omega))
 have HF2 := Lib.hid (fun v w (hv : BookP w v) => show Calls Tryz.prog 15 #[v, .string T] w fun e w' => e = .returned (.string FT) ∧ Below w.heap.size w w' from by
  rw [← hT2, ← hFT]; exact BFold_ok t v w hv (by omega))
 have hqq : (FS.toList == FT.toList) = q := by rw [← hFS, ← hFT, ← hq]; exact str_beq _ _
 have HNW := Lib.hid hN; have HLV := Lib.hid hlive
 clear hS hT2 hb1 hb2 hq hFS hFT hO hT hN hlive l1 l2
 go_enter Tryz.func4, Tryz.ntmps4
 go_wp2_with (first
  | (go_at_call 10; refine (HNW.out _ (Below.refl _ _)).mono ?_; rintro e w1 ⟨v, rfl, hv, hb⟩; have HV := Lib.hid hv; have HB1 := Lib.hid hb; clear hv hb)
  | (go_at_call 12; refine (HBG.out _ HB1.out).mono ?_; rintro e w2 ⟨rfl, hb⟩; have HK2 := Lib.hid hb; have HB2 := Lib.hid (HB1.out.trans (hb.mono HB1.out.size)); clear hb)
  | (go_at_call 13; refine (HDB.out _ _ (bookP_below HV.out HK2.out)).mono ?_; rintro e w3 ⟨rfl, hb⟩; have HK3 := Lib.hid (HK2.out.trans (hb.mono HK2.out.size)); have HB3 := Lib.hid (HB2.out.trans (hb.mono HB2.out.size)); clear hb)
  | (go_at_call 14; refine (HEQ.out _ HB3.out).mono ?_; rintro e w4 ⟨rfl, hb⟩; have HK4 := Lib.hid (HK3.out.trans (hb.mono HK3.out.size)); have HB4 := Lib.hid (HB3.out.trans (hb.mono HB3.out.size)); clear hb)
  | (go_at_call 15; refine (HF1.out _ _ (bookP_below HV.out HK4.out)).mono ?_; rintro e w5 ⟨rfl, hb⟩; have HK5 := Lib.hid (HK4.out.trans (hb.mono HK4.out.size)); have HB5 := Lib.hid (HB4.out.trans (hb.mono HB4.out.size)); clear hb HF1)
  | (go_at_call 15; refine (HF2.out _ _ (bookP_below HV.out HK5.out)).mono ?_; rintro e w6 ⟨rfl, hb⟩; have HB6 := Lib.hid (HB5.out.trans (hb.mono HB5.out.size)); clear hb)
  | (go_at_call 8; refine (HLV.out _ HB6.out).mono ?_; rintro e w7 ⟨rfl, hb⟩; have HB7 := Lib.hid (HB6.out.trans (hb.mono HB6.out.size)); clear hb))
 go_ret
 exact ⟨rfl, HB7.out⟩
theorem FoldCompares_ok (s t : ByteArray) (hs : s.size ≤ 140737488355328) (ht : t.size ≤ 140737488355328) (W : World) (hO : ∀ w, Below W.heap.size W w → OpensP w) (hT : Lib.Utf8Tabs 0 1 W) (hN : ∀ w, Below W.heap.size W w → NewB w) (hlive : ∀ w, Below W.heap.size W w → Lives w) :
 Calls Tryz.prog 4 #[.string s, .string t] W (LawPost W) := by
 rcases Nat.lt_or_ge 80 (s.size + t.size) with h | h
 ·exact comp_long s t hs ht h W (hlive W (Below.refl _ _))
 ·exact comp_short (L s) (L t) s t (mk_L s) (mk_L t) h W hO hT hN hlive
end
end Go.Proofs.YtnfghboholehdaaGreatDoor.foldCompares
