/- places, Every, tell, Write, Close, New: what they compute. -/
import Derived.Test.YtfmnninijakknaaGreatDoorSC
import Derived.Lib.OthersKept
import Derived.Laws.EntriesVeiled
import Derived.OwnWalk
import Derived.Deep.RegionLaw
import Derived.BigQuiet
import Derived.Deep.RegionHeld3
import Derived.Laws.BytesArg
import Derived.Laws.IdiomStrings
import Derived.IntWalk
namespace Go.Proofs.YtfmnninijakknaaGreatDoor.searchPieces
section
open Go.Shelf Go.RowKit Go.Lib
open Pieces (bt width full)
structure PL (W : World) (s : ByteArray) (ob outb itb base e : Nat) (acc : List (Nat × List UInt8)) (v : Value) (w : World) : Prop where
  bel : Below W.heap.size W w
  obx : w.heap[ob]? = some (.cells #[.bool false, .bool false, .bool false] 37 (0, 0))
  out : w.heap[outb]? = some (.cells #[v] 53 (0, 0))
  it : w.heap[itb]? = some (.stringIter s e)
  own : w.ownsRow base 56 3 v acc.length (placesV acc)
  size : base ≤ w.heap.size
def PlacesPost (l : List (Nat × List UInt8)) (W : World) (e : Ending) (w' : World) : Prop :=
  ∃ v, e = .returned v ∧ Below W.heap.size W w' ∧ w'.ownsRow W.heap.size 56 3 v l.length (placesV l)
theorem ext_tail (t : List UInt8) (e : Nat) (s : ByteArray) (hs : (⟨t.toArray⟩ : ByteArray) = s) : s.extract e s.size = ⟨(t.drop e).toArray⟩ := by
  subst hs
  rw [ByteArray.extract_mk, List.take_of_length_le]
  simp [ByteArray.size]
theorem ext_mid (t : List UInt8) (e n : Nat) (s : ByteArray) (hs : (⟨t.toArray⟩ : ByteArray) = s) : s.extract e (e + n) = ⟨((t.drop e).take n).toArray⟩ := by
  subst hs
  rw [ByteArray.extract_mk, Nat.add_sub_cancel_left]
theorem size_mk (t : List UInt8) (s : ByteArray) (hs : (⟨t.toArray⟩ : ByteArray) = s) : s.size = t.length := by
  subst hs
  simp [ByteArray.size]
theorem dec_l (l : List UInt8) (wd : Nat) (w : World) (hw : width l = wd) (h0 : l ≠ []) (hT : Lib.Utf8Tabs 0 1 w) : Calls Tryz.prog 31 #[.string ⟨l.toArray⟩] w (DrPost wd w) := by
  have hd : (⟨l.toArray⟩ : ByteArray).data.toList = l := by simp
  refine (Decode_some ⟨l.toArray⟩ w (by rw [ByteArray.toList_mk]; cases l with | nil => exact absurd rfl h0 | cons a b => rfl) hT).mono ?_
  rintro e w' ⟨rfl, hb⟩
  refine ⟨⟨(Lib.decodeGo ⟨l.toArray⟩).1, ?_⟩, hb⟩
  rw [Pieces.decodeGo_width _ (by rw [hd]; exact h0), hd, hw]
theorem dec_at (t : List UInt8) (e : Nat) (s : ByteArray) (hs : (⟨t.toArray⟩ : ByteArray) = s) (he : e < t.length) : (Utf8.decode s e).2 = width (t.drop e) := by
  have hd : s.data.toList = t := by subst hs; simp
  have hne : t.drop e ≠ [] := by intro c; rw [List.drop_eq_nil_iff] at c; omega
  unfold width
  rw [if_neg hne, Go.Lib.decode_at, Pieces.get_bt, Pieces.get_bt, Pieces.get_bt, Pieces.get_bt, hd, size_mk t s hs, bt_drop, bt_drop, bt_drop, bt_drop, List.length_drop]
  rfl
theorem PL.below {W : World} {s : ByteArray} {ob outb itb base e : Nat} {acc : List (Nat × List UInt8)} {v : Value} {w w1 : World} (h : PL W s ob outb itb base e acc v w) (hb : Below w.heap.size w w1) : PL W s ob outb itb base e acc v w1 :=
  ⟨h.bel.trans (hb.mono h.bel.size), below_blk hb h.obx (heap_lt h.obx), below_blk hb h.out (heap_lt h.out), below_blk hb h.it (heap_lt h.it), (Fr.of_below (T := fun _ => False) hb (Nat.le_refl _)).own h.own (fun _ _ => id), Nat.le_trans h.size hb.size⟩
theorem PL.iter {W : World} {s : ByteArray} {ob outb itb base e e' : Nat} {acc : List (Nat × List UInt8)} {v : Value} {w : World} (h : PL W s ob outb itb base e acc v w) (hI : W.heap.size ≤ itb) : PL W s ob outb itb base e' acc v (w.iterAt itb s e') := by
  have n1 : ob ≠ itb := by rintro rfl; have := h.obx; rw [h.it] at this; cases this
  have n2 : outb ≠ itb := by rintro rfl; have := h.out; rw [h.it] at this; cases this
  refine ⟨below_iterAt h.bel hI s e', (iterAt_other w itb ob s e' n1).trans h.obx, (iterAt_other w itb outb s e' n2).trans h.out, iterAt_heap w itb s e e' h.it, ?_, by rw [iterAt_size]; exact h.size⟩
  refine ⟨h.own.1, ?_⟩
  rcases h.own.2 with h2 | ⟨g, cap, cur, hv, hb, hg, r⟩
  · exact .inl h2
  · have n3 : g ≠ itb := by rintro rfl; rw [h.it] at hg; cases hg
    exact .inr ⟨g, cap, cur, hv, hb, (iterAt_other w itb g s e' n3).trans hg, r⟩
theorem PL.add {W : World} {s : ByteArray} {ob outb itb base e k : Nat} {sh : List UInt8} {acc : List (Nat × List UInt8)} {v : Value} {w w1 : World} {x : Ending} (h : PL W s ob outb itb base e acc v w) (hp : AddPost outb v base (acc ++ [(k, sh)]) w x w1)
    (hO : W.heap.size ≤ outb) (hB : W.heap.size ≤ base) : ∃ v', PL W s ob outb itb base e (acc ++ [(k, sh)]) v' w1 := by
  obtain ⟨_, hf, v', hb, hown, _⟩ := hp
  have ne : ∀ {g : Nat} {o : Obj}, w.heap[g]? = some o → (∀ cs fr, o ≠ .cells cs 56 fr) → (∀ cs fr, o ≠ .cells cs 53 fr) → ¬ (g = outb ∨ v.ownBlock = some g) := by
    rintro g o hg h1 h2 (rfl | hv)
    · rw [h.out] at hg; cases hg; exact h2 _ _ rfl
    · obtain ⟨_, _, cur, hcur⟩ := own_lt h.own hv
      rw [hg] at hcur; cases hcur; exact h1 _ _ rfl
  refine ⟨v', ⟨h.bel.os ▸ hf.os, h.bel.tape ▸ hf.tape, h.bel.output ▸ hf.output, Nat.le_trans h.bel.size hf.size, fun k hk => ?_⟩, hf.blk h.obx (ne h.obx (by simp) (by simp)), hb, hf.blk h.it (ne h.it (by simp) (by simp)), hown, Nat.le_trans h.size hf.size⟩
  rw [hf.block k (Nat.lt_of_lt_of_le hk h.bel.size) ?_]
  · exact h.bel.block k hk
  · rintro (rfl | hv)
    · omega
    · have := (own_lt h.own hv).1; omega
theorem PL.start (W : World) (s : ByteArray) (b1 b2 b3 : Obj) : PL W s W.heap.size (W.heap.size + 1 + 1 + 1 + 1) (W.heap.size + 1 + 1 + 1 + 1 + 1) (W.heap.size + 1 + 1 + 1 + 1 + 1 + 1) 0 [] (.slice none 0 0)
    ((((((W.alloc (.cells #[.bool false, .bool false, .bool false] 37)).alloc b1).alloc b2).alloc b3).alloc (.cells #[.slice none 0 0] 53)).iter s 0) := by
  have hb : Below W.heap.size W ((((((W.alloc (.cells #[.bool false, .bool false, .bool false] 37)).alloc b1).alloc b2).alloc b3).alloc (.cells #[.slice none 0 0] 53)).iter s 0) := by
    have h1 := (Below.refl W.heap.size W).alloc (Nat.le_refl _) (.cells #[.bool false, .bool false, .bool false] 37)
    have h2 := h1.alloc h1.size b1
    have h3 := h2.alloc h2.size b2
    have h4 := h3.alloc h3.size b3
    have h5 := h4.alloc h4.size (.cells #[.slice none 0 0] 53)
    exact h5.alloc h5.size (.stringIter s 0)
  refine ⟨hb, ?_, ?_, ?_, ⟨rfl, .inl ⟨rfl, rfl⟩⟩, ?_⟩
  · change ((((((W.heap.push _).push _).push _).push _).push _).push _)[_]? = _
    rw [Array.getElem?_push, if_neg (by simp only [Array.size_push]; omega), Array.getElem?_push, if_neg (by simp only [Array.size_push]; omega), Array.getElem?_push, if_neg (by simp only [Array.size_push]; omega), Array.getElem?_push, if_neg (by simp only [Array.size_push]; omega), Array.getElem?_push, if_neg (by simp only [Array.size_push]; omega), Array.getElem?_push, if_pos rfl]
  · change ((((((W.heap.push _).push _).push _).push _).push _).push _)[_]? = _
    rw [Array.getElem?_push, if_neg (by simp only [Array.size_push]; omega), Array.getElem?_push, if_pos (by simp only [Array.size_push])]
  · change ((((((W.heap.push _).push _).push _).push _).push _).push _)[_]? = _
    rw [Array.getElem?_push, if_pos (by simp only [Array.size_push])]
  · change _ ≤ ((((((W.heap.push _).push _).push _).push _).push _).push _).size
    simp
set_option maxHeartbeats 2000000 in
set_option maxRecDepth 100000 in
theorem places_ok (t : List UInt8) (W : World) (hT : Lib.Utf8Tabs 0 1 W) (hn : t.length ≤ 100000) :
    Calls Tryz.prog 20 #[.string ⟨t.toArray⟩, .agg #[.bool false, .bool false, .bool false]] W (PlacesPost (Pieces.places width t (t.length + 1) 0) W) := by
  have hmf : ∀ fn first cap w, (Instr.makeFunc fn first cap).run Tryz.prog w = .ok (.func fn first cap) w := fun _ _ _ _ => rfl
  obtain ⟨s, hs⟩ : ∃ s : ByteArray, (⟨t.toArray⟩ : ByteArray) = s := ⟨_, rfl⟩
  have HT := Lib.hid hT; clear hT
  rw [hs]
  have HS := Lib.hid hs; clear hs
  go_enter Tryz.func20, Tryz.ntmps20
  go_wp2
  go_loopw [10] (fun _ wr => ∃ e n acc v, PL W s W.heap.size (W.heap.size + 1 + 1 + 1 + 1) (W.heap.size + 1 + 1 + 1 + 1 + 1) (W.heap.size + 1 + 1 + 1 + 1 + 1 + 1) e acc v wr ∧ e ≤ t.length ∧ t.length < n + e ∧ acc.length ≤ e ∧ acc ++ Pieces.places width t n e = Pieces.places width t (t.length + 1) 0) (fun _ wr => s.size - wr.iterPos (W.heap.size + 1 + 1 + 1 + 1 + 1))
  case atStart =>
    exact ⟨0, t.length + 1, [], .slice none 0 0, PL.start W s _ _ _, Nat.zero_le _, Nat.lt_succ_self _, Nat.le_refl _, rfl⟩
  case round =>
    obtain ⟨e, n, acc, v, hPL, he, hne, hacc, hl⟩ := hrel
    have hit := hPL.it
    have hbox := hPL.obx
    have hout := hPL.out
    have HP := Lib.hid hPL; clear hPL
    have HL := Lib.hid hl; clear hl
    have hss := size_mk t s HS.out
    by_cases hlt : e < s.size
    · have hlt2 : e < t.length := by omega
      have hnx := fun ty => run_next_any_at (P := Tryz.prog) wr _ s e ty hit hlt
      rw [dec_at t e s HS.out hlt2] at hnx
      have hne2 : t.drop e ≠ [] := by intro c; rw [List.drop_eq_nil_iff] at c; omega
      have hgood := Pieces.width_good (t.drop e) hne2
      obtain ⟨wd, hwd⟩ : ∃ wd, width (t.drop e) = wd := ⟨_, rfl⟩
      rw [hwd] at hnx hgood
      rw [List.length_drop] at hgood
      obtain ⟨n', rfl⟩ : ∃ n', n = n' + 1 := ⟨n - 1, by omega⟩
      obtain ⟨sh, hsh⟩ : ∃ sh, (t.drop e).take wd = sh := ⟨_, rfl⟩
      have hx1 := ext_tail t e s HS.out
      have hx2 := ext_mid t e wd s HS.out
      obtain ⟨ew, hew⟩ : ∃ ew, e + wd = ew := ⟨_, rfl⟩
      rw [hsh, hew] at hx2
      rw [hew] at hnx
      have hwr : wrap64 ((e : Int) + wd) = ew := by unfold wrap64; omega
      have hpl : Pieces.places width t (n' + 1) e = (e, sh) :: Pieces.places width t n' ew := by
        show (if e < t.length then _ else _) = _
        rw [if_pos hlt2, hwd, hsh, hew]
      have HPL := Lib.hid hpl; clear hpl
      have HWD := Lib.hid hwd; clear hwd
      have HSH := Lib.hid hsh; clear hsh
      have HNE := Lib.hid hne2; clear hne2
      have hi0 : (0 : Int) ≤ e := by omega
      have hi1 : (e : Int) ≤ s.size := by omega
      have hi2 : (e : Int) ≤ ew := by omega
      have hi3 : (ew : Int) ≤ s.size := by omega
      have HG := Lib.hid hgood; clear hgood
      have HSS := Lib.hid hss; clear hss
      have P1 := HP.out.iter (e' := ew) (by omega)
      have HP1 := Lib.hid P1; clear P1
      have HEW := Lib.hid hew; clear hew
      go_wp2_with (first
        | (go_at_call 31
           (refine (dec_l (t.drop e) wd _ HWD.out HNE.out (tabs_fr (Fr.of_below HP1.out.bel (Nat.le_refl _)) HT.out (T := fun _ => False) id id)).mono ?_)
           rintro x w1 ⟨⟨r, rfl⟩, hb1⟩
           have HP2 := Lib.hid (HP1.out.below hb1))
        | (go_at_call 30
           (refine (add_ok e sh acc acc.length _ _ _ _ _ _ v w1 ?_ ?_ ?_ HP2.out.out HP2.out.own rfl ?_ HP2.out.size).mono ?_)
           · rw [cell_of_row w1 _ 0 _ _ _ HP2.out.obx]; rfl
           · rw [cell_of_row w1 _ 1 _ _ _ HP2.out.obx]; rfl
           · rw [cell_of_row w1 _ 2 _ _ _ HP2.out.obx]; rfl
           · omega
           rintro x w2 hadd
           obtain ⟨r2, rfl⟩ := hadd.1
           have hp3 := HP2.out.add hadd (by omega) (by omega)
           have HP3 := Lib.hid hp3; clear hp3))
      obtain ⟨v', P3⟩ := HP3.out
      have g1 := HG.out
      have g2 := HEW.out
      have g3 := HSS.out
      refine ⟨⟨ew, n', acc ++ [(e, sh)], v', P3, by omega, by omega, by simp; omega, by rw [← HL.out, HPL.out]; simp⟩, ?_⟩
      have q1 : w2.iterPos (W.heap.size + 1 + 1 + 1 + 1 + 1) = ew := by unfold World.iterPos; rw [P3.it]
      have q2 : wr.iterPos (W.heap.size + 1 + 1 + 1 + 1 + 1) = e := by unfold World.iterPos; rw [hit]
      rw [q1, q2]
      have := HG.out
      have := HEW.out
      have := HSS.out
      omega
    · have hnx := fun ty => run_next_end_at (P := Tryz.prog) wr _ s e ty hit hlt
      have hee : e = s.size := by omega
      obtain ⟨n', rfl⟩ : ∃ n', n = n' + 1 := ⟨n - 1, by omega⟩
      have hpl : Pieces.places width t (n' + 1) e = [(s.size, [])] := by
        show (if e < t.length then _ else _) = _
        rw [if_neg (by omega), hss]
      have HPL := Lib.hid hpl; clear hpl
      have HSS := Lib.hid hss; clear hss
      have HEE := Lib.hid hee; clear hee
      go_wp2_with fail
      have hAdd : Calls Tryz.prog 30 #[.int .i64 s.size, .string { data := #[] }, .pointer (some ⟨W.heap.size, 0, none⟩), .pointer (some ⟨W.heap.size + 1 + 1 + 1 + 1, 0, none⟩), .pointer (some ⟨W.heap.size + 1 + 1 + 1, 0, none⟩), .pointer (some ⟨W.heap.size + 1, 0, none⟩), .pointer (some ⟨W.heap.size + 1 + 1, 0, none⟩)] wr (AddPost (W.heap.size + 1 + 1 + 1 + 1) v (W.heap.size + 1 + 1 + 1 + 1 + 1 + 1) (acc ++ [(s.size, [])]) wr) := by
        refine add_ok s.size [] acc acc.length _ _ _ _ _ _ v wr ?_ ?_ ?_ HP.out.out HP.out.own rfl ?_ HP.out.size
        · rw [cell_of_row wr _ 0 _ _ _ HP.out.obx]; rfl
        · rw [cell_of_row wr _ 1 _ _ _ HP.out.obx]; rfl
        · rw [cell_of_row wr _ 2 _ _ _ HP.out.obx]; rfl
        · omega
      refine hAdd.mono ?_
      rintro x w2 hadd
      obtain ⟨r2, rfl⟩ := hadd.1
      obtain ⟨v', hp3⟩ := HP.out.add hadd (by omega) (by omega)
      obtain ⟨A', c', rfl, _⟩ := own_slice hp3.own
      have hcv : w2.cell? ⟨W.heap.size + 1 + 1 + 1 + 1, 0, none⟩ = some (.slice A' (acc ++ [(s.size, [])]).length c') := by rw [cell_of_row w2 _ 0 _ _ _ hp3.out]; rfl
      have HP3 := Lib.hid hp3; clear hp3 hadd
      clear hit hbox hout hnx hlt hne he hacc hn hmf
      obtain ⟨m, hm⟩ : ∃ m, (acc ++ [(s.size, [])]).length = m := ⟨_, rfl⟩
      rw [hm] at hcv
      have HM := Lib.hid hm; clear hm
      dsimp only
      go_wp2
      go_ret
      refine ⟨_, rfl, HP3.out.bel, ?_⟩
      have h := own_base HP3.out.own (base' := W.heap.size) (fun g hg => by have := (own_lt HP3.out.own hg).1; omega)
      rw [← HL.out, HPL.out]
      rw [HM.out] at h ⊢
      exact h
end
section
open Go.Shelf Go.RowKit Go.Lib
open Pieces (bt width full)
/-! ### a beginning cut off -/
theorem HasPrefix_short (s p : ByteArray) (w : World) (h : s.size < p.size) : Calls Tryz.prog 56 #[.string s, .string p] w fun e w' => e = .returned (.bool false) ∧ w' = w := by
  have hd : decide ((p.size : Int) ≤ s.size) = false := by rw [decide_eq_false_iff_not]; omega
  go_enter Tryz.func56, Tryz.ntmps56
  go_wp2
  go_ret
  exact ⟨rfl, rfl⟩
theorem HasPrefix_long (s p : ByteArray) (b : Bool) (w : World) (h : p.size ≤ s.size) (hb : ((s.extract 0 p.size).toList == p.toList) = b) : Calls Tryz.prog 56 #[.string s, .string p] w fun e w' => e = .returned (.bool b) ∧ w' = w := by
  have hd : (p.size : Int) ≤ s.size := by omega
  have h0 : (0 : Int) ≤ p.size := by omega
  have HB := Lib.hid hb; clear hb
  go_enter Tryz.func56, Tryz.ntmps56
  go_wp2
  go_ret
  exact ⟨by rw [← HB.out]; rfl, rfl⟩
theorem HasPrefix_l (a b : List UInt8) (q : Bool) (w : World) (hq : decide (a.take b.length = b) = q) : Calls Tryz.prog 56 #[.string ⟨a.toArray⟩, .string ⟨b.toArray⟩] w fun e w' => e = .returned (.bool q) ∧ w' = w := by
  have s1 : (⟨a.toArray⟩ : ByteArray).size = a.length := size_mk a _ rfl
  have s2 : (⟨b.toArray⟩ : ByteArray).size = b.length := size_mk b _ rfl
  rcases Nat.lt_or_ge a.length b.length with c | c
  · have : q = false := by
      rw [← hq, decide_eq_false_iff_not]
      intro h
      have := congrArg List.length h
      rw [List.length_take] at this
      omega
    rw [this]
    exact HasPrefix_short _ _ w (by rw [s1, s2]; exact c)
  · refine HasPrefix_long _ _ q w (by rw [s1, s2]; exact c) ?_
    rw [ByteArray.extract_mk, ByteArray.toList_mk, ByteArray.toList_mk, s2, ← hq]
    simp only [List.drop_zero, Nat.sub_zero]
    rw [Bool.eq_iff_iff, beq_iff_eq, decide_eq_true_iff]
theorem Cut32_no (a b : List UInt8) (w : World) (h : ¬ a.take b.length = b) : Calls Tryz.prog 32 #[.string ⟨a.toArray⟩, .string ⟨b.toArray⟩] w fun e w' => e = .returned (.tuple #[.string ⟨a.toArray⟩, .bool false]) ∧ w' = w := by
  go_enter Tryz.func32, Tryz.ntmps32
  go_wp2_with (go_at_call 56; refine (HasPrefix_l a b false _ (decide_eq_false h)).mono ?_; rintro e w1 ⟨rfl, rfl⟩)
  go_ret2
  exact ⟨rfl, rfl⟩
theorem Cut32_yes (a b : List UInt8) (w : World) (h : a.take b.length = b) : Calls Tryz.prog 32 #[.string ⟨a.toArray⟩, .string ⟨b.toArray⟩] w fun e w' => e = .returned (.tuple #[.string ⟨(a.drop b.length).toArray⟩, .bool true]) ∧ w' = w := by
  have s1 : (⟨a.toArray⟩ : ByteArray).size = a.length := size_mk a _ rfl
  have s2 : (⟨b.toArray⟩ : ByteArray).size = b.length := size_mk b _ rfl
  have hle : b.length ≤ a.length := by
    have := congrArg List.length h
    rw [List.length_take] at this
    omega
  have hx := ext_tail a b.length ⟨a.toArray⟩ rfl
  obtain ⟨x, hxx⟩ : ∃ x : ByteArray, ⟨(a.drop b.length).toArray⟩ = x := ⟨_, rfl⟩
  obtain ⟨s, hs⟩ : ∃ s : ByteArray, ⟨a.toArray⟩ = s := ⟨_, rfl⟩
  obtain ⟨p, hp⟩ : ∃ p : ByteArray, ⟨b.toArray⟩ = p := ⟨_, rfl⟩
  have hcall := HasPrefix_l a b true w (decide_eq_true h)
  rw [hxx]
  rw [hs, hxx, ← s2, hp] at hx
  rw [hs] at s1
  rw [hp] at s2
  rw [hs, hp] at hcall ⊢
  have h0 : (0 : Int) ≤ p.size := by omega
  have h1 : (p.size : Int) ≤ s.size := by omega
  have HH := Lib.hid h; have H1 := Lib.hid s1; have H2 := Lib.hid s2; have H3 := Lib.hid hle; have H4 := Lib.hid hcall
  clear h s1 s2 hle hcall hxx hs hp
  go_enter Tryz.func32, Tryz.ntmps32
  go_wp2_with (go_at_call 56; refine H4.out.mono ?_; rintro e w1 ⟨rfl, rfl⟩)
  go_ret2
  exact ⟨rfl, rfl⟩
theorem Cut_no (a b : List UInt8) (w : World) (h : Pieces.cut a b = none) : Calls Tryz.prog 21 #[.string ⟨a.toArray⟩, .string ⟨b.toArray⟩] w fun e w' => e = .returned (.tuple #[.string ⟨a.toArray⟩, .bool false]) ∧ w' = w := by
  have h1 : ¬ a.take b.length = b := by
    intro c
    unfold Pieces.cut at h
    rw [if_pos c] at h
    cases h
  have H1 := Lib.hid h1; clear h1 h
  go_enter Tryz.func21, Tryz.ntmps21
  go_wp2_with (go_at_call 32; refine (Cut32_no a b _ H1.out).mono ?_; rintro e w1 ⟨rfl, rfl⟩)
  go_ret2
  exact ⟨rfl, rfl⟩
theorem Cut_yes (a b n : List UInt8) (w : World) (h : Pieces.cut a b = some n) : Calls Tryz.prog 21 #[.string ⟨a.toArray⟩, .string ⟨b.toArray⟩] w fun e w' => e = .returned (.tuple #[.string ⟨n.toArray⟩, .bool true]) ∧ w' = w := by
  have h1 : a.take b.length = b ∧ a.drop b.length = n := by
    unfold Pieces.cut at h
    split at h
    · rename_i c
      exact ⟨c, by injection h⟩
    · cases h
  have hc := Cut32_yes a b w h1.1
  rw [h1.2] at hc
  have H1 := Lib.hid hc; clear h1 h hc
  go_enter Tryz.func21, Tryz.ntmps21
  go_wp2_with (go_at_call 32; refine H1.out.mono ?_; rintro e w1 ⟨rfl, rfl⟩)
  go_ret2
  exact ⟨rfl, rfl⟩
end
section
open Go.Shelf Go.RowKit Go.Lib
open Pieces (bt width full)
/-! ### Every -/
def matchV (p : Nat × Nat) : List Value := [.int .i64 p.1, .int .i64 p.2]
def matchesV (l : List (Nat × Nat)) : List Value := l.flatMap matchV
theorem matchesV_app (l : List (Nat × Nat)) (p : Nat × Nat) : matchesV (l ++ [p]) = matchesV l ++ matchV p := by simp [matchesV]
theorem match_info : (Tryz.prog.info? 39).map (fun i => (i.zero, i.size, i.bytes)) = some (some (.agg #[.int .i64 0, .int .i64 0]), 2, 16) := by kernel_rfl
theorem placesV_get : ∀ (l : List (Nat × List UInt8)) (k : Nat) (p : Nat × List UInt8), l[k]? = some p → (placesV l)[k * 3]? = some (.int .i64 p.1) ∧ (placesV l)[k * 3 + 1]? = some (.bool true) ∧ (placesV l)[k * 3 + 2]? = some (.string ⟨p.2.toArray⟩)
  | [], k, p, h => by simp at h
  | q :: l, 0, p, h => by
    simp at h
    subst h
    exact ⟨rfl, rfl, rfl⟩
  | q :: l, k + 1, p, h => by
    have ih := placesV_get l k p (by simpa using h)
    have e : ∀ j, (placesV (q :: l))[(k + 1) * 3 + j]? = (placesV l)[k * 3 + j]? := fun j => by
      show (placeV q ++ placesV l)[(k + 1) * 3 + j]? = _
      rw [List.getElem?_append_right (by simp [placeV]; omega)]
      congr 1
      simp [placeV]; omega
    exact ⟨by have := e 0; rw [Nat.add_zero, Nat.add_zero] at this; rw [this]; exact ih.1, by rw [e 1]; exact ih.2.1, by rw [e 2]; exact ih.2.2⟩
theorem place_cells {w : World} {base g n cap : Nat} {l : List (Nat × List UInt8)} (h : w.ownsRow base 56 3 (.slice (some ⟨g, 0, none⟩) n cap) n (placesV l)) {k : Nat} {p : Nat × List UInt8} (hk : l[k]? = some p) :
    w.cell? ⟨g, k * 3, none⟩ = some (.int .i64 p.1) ∧ w.cell? ⟨g, k * 3 + 1, none⟩ = some (.bool true) ∧ w.cell? ⟨g, k * 3 + 2, none⟩ = some (.string ⟨p.2.toArray⟩) := by
  obtain ⟨h0, h1, h2⟩ := placesV_get l k p hk
  have c := fun j u hj => h.cells (g := g) rfl j u hj
  have e : ∀ j, (⟨g, 0, none⟩ : Addr).add j = ⟨g, j, none⟩ := fun j => by rw [add_none, Nat.zero_add]
  refine ⟨?_, ?_, ?_⟩
  · have := c _ _ h0; rwa [e] at this
  · have := c _ _ h1; rwa [e] at this
  · have := c _ _ h2; rwa [e] at this
structure EV (W : World) (t : List UInt8) (pl : List (Nat × List UInt8)) (g N cap i : Nat) (acc : List (Nat × Nat)) (vo : Value) (w : World) : Prop where
  bel : Below W.heap.size W w
  plc : w.ownsRow W.heap.size 56 3 (.slice (some ⟨g, 0, none⟩) N cap) N (placesV pl)
  out : w.ownsRow W.heap.size 39 2 vo acc.length (matchesV acc)
  len : acc.length ≤ i
  eq : acc ++ Pieces.every t (pl.drop i) = Pieces.every t pl
def EveryPost (l : List (Nat × Nat)) (W : World) (e : Ending) (w' : World) : Prop :=
  ∃ v, e = .returned v ∧ Below W.heap.size W w' ∧ w'.ownsRow W.heap.size 39 2 v l.length (matchesV l)
theorem places_ne (wd : List UInt8 → Nat) (w : List UInt8) (n e : Nat) : Pieces.places wd w (n + 1) e ≠ [] := by
  show (if e < w.length then _ else _) ≠ _
  split <;> simp
theorem one2 (a b : Value) (ha : a.oneCell' = true) (hb : b.oneCell' = true) : ∀ u ∈ [a, b], u.oneCell' = true := by
  intro u hu
  simp only [List.mem_cons, List.not_mem_nil, or_false] at hu
  rcases hu with rfl | rfl <;> assumption
theorem places_length (wd : List UInt8 → Nat) (w : List UInt8) : ∀ n e, (Pieces.places wd w n e).length ≤ n
  | 0, _ => Nat.le_refl _
  | n + 1, e => by
    show (if e < w.length then _ else _ : List (Nat × List UInt8)).length ≤ _
    split
    · exact Nat.succ_le_succ (places_length wd w n _)
    · exact Nat.succ_le_succ (Nat.zero_le _)
theorem look_nil {p : Nat × List UInt8} {r : List (Nat × List UInt8)} : Pieces.look [] (p :: r) = some p.1 := rfl
theorem look_no {rest : List UInt8} {p : Nat × List UInt8} {r : List (Nat × List UInt8)} (hr : rest ≠ []) (h : Pieces.cut rest p.2 = none) : Pieces.look rest (p :: r) = none := by
  obtain ⟨a, sh⟩ := p
  show (if rest = [] then some a else match Pieces.cut rest sh with | some nx => if sh = [] then none else Pieces.look nx r | none => none) = none
  rw [if_neg hr, h]
theorem look_stop {rest nx : List UInt8} {p : Nat × List UInt8} {r : List (Nat × List UInt8)} (hr : rest ≠ []) (h : Pieces.cut rest p.2 = some nx) (hs : p.2 = []) : Pieces.look rest (p :: r) = none := by
  obtain ⟨a, sh⟩ := p
  show (if rest = [] then some a else match Pieces.cut rest sh with | some nx => if sh = [] then none else Pieces.look nx r | none => none) = none
  rw [if_neg hr, h]
  show (if sh = [] then none else Pieces.look nx r) = none
  rw [if_pos hs]
theorem look_go {rest nx : List UInt8} {p : Nat × List UInt8} {r : List (Nat × List UInt8)} (hr : rest ≠ []) (h : Pieces.cut rest p.2 = some nx) (hs : p.2 ≠ []) : Pieces.look rest (p :: r) = Pieces.look nx r := by
  obtain ⟨a, sh⟩ := p
  show (if rest = [] then some a else match Pieces.cut rest sh with | some nx => if sh = [] then none else Pieces.look nx r | none => none) = _
  rw [if_neg hr, h]
  show (if sh = [] then none else Pieces.look nx r) = _
  rw [if_neg hs]
theorem drop_at {α : Type} {l : List α} {k : Nat} {p : α} (h : l[k]? = some p) : l.drop k = p :: l.drop (k + 1) := by
  obtain ⟨hk, rfl⟩ := List.getElem?_eq_some_iff.1 h
  exact List.drop_eq_getElem_cons hk
theorem EV.below {W : World} {t : List UInt8} {pl : List (Nat × List UInt8)} {g N cap i : Nat} {acc : List (Nat × Nat)} {vo : Value} {w w1 : World} (h : EV W t pl g N cap i acc vo w) (hb : Below w.heap.size w w1) : EV W t pl g N cap i acc vo w1 :=
  ⟨h.bel.trans (hb.mono h.bel.size), (Fr.of_below (T := fun _ => False) hb (Nat.le_refl _)).own h.plc (fun _ _ => id), (Fr.of_below (T := fun _ => False) hb (Nat.le_refl _)).own h.out (fun _ _ => id), h.len, h.eq⟩
theorem EV.skip {W : World} {t : List UInt8} {pl : List (Nat × List UInt8)} {g N cap k : Nat} {acc : List (Nat × Nat)} {vo : Value} {w : World} {a : Nat} {sh : List UInt8} (h : EV W t pl g N cap k acc vo w) (hp : pl[k]? = some (a, sh)) (hl : Pieces.look t (pl.drop k) = none) :
    EV W t pl g N cap (k + 1) acc vo w := by
  refine ⟨h.bel, h.plc, h.out, Nat.le_succ_of_le h.len, ?_⟩
  rw [← h.eq, drop_at hp]
  rw [drop_at hp] at hl
  show _ = acc ++ (match Pieces.look t ((a, sh) :: pl.drop (k + 1)) with | some b => (a, b) :: Pieces.every t (pl.drop (k + 1)) | none => Pieces.every t (pl.drop (k + 1)))
  rw [hl]
theorem EV.hit {W : World} {t : List UInt8} {pl : List (Nat × List UInt8)} {g N cap k b : Nat} {acc : List (Nat × Nat)} {vo v' : Value} {w w3 : World} {o : Obj} {a : Nat} {sh : List UInt8} (h : EV W t pl g N cap k acc vo w) (hp : pl[k]? = some (a, sh)) (hl : Pieces.look t (pl.drop k) = some b)
    (hg : (w.drew.alloc o).grownBy w3 vo.ownBlock) (hown : w3.ownsRow W.heap.size 39 2 v' (acc.length + 1) (matchesV acc ++ [.int .i64 a, .int .i64 b])) : EV W t pl g N cap (k + 1) (acc ++ [(a, b)]) v' w3 := by
  have hf := add_fr hg
  refine ⟨⟨h.bel.os ▸ hf.os, h.bel.tape ▸ hf.tape, h.bel.output ▸ hf.output, Nat.le_trans h.bel.size hf.size, fun j hj => ?_⟩, hf.own h.plc ?_, ?_, ?_, ?_⟩
  · rw [hf.block j (Nat.lt_of_lt_of_le hj h.bel.size) (fun c => by have := (own_lt h.out c).1; omega)]
    exact h.bel.block j hj
  · intro j hj c
    obtain ⟨_, _, cur, hcur⟩ := own_lt h.plc hj
    obtain ⟨_, _, cur2, hcur2⟩ := own_lt h.out c
    rw [hcur] at hcur2
    cases hcur2
  · rw [matchesV_app, List.length_append]
    exact hown
  · rw [List.length_append]
    exact Nat.succ_le_succ h.len
  · rw [← h.eq, drop_at hp]
    rw [drop_at hp] at hl
    show _ = acc ++ (match Pieces.look t ((a, sh) :: pl.drop (k + 1)) with | some b => (a, b) :: Pieces.every t (pl.drop (k + 1)) | none => Pieces.every t (pl.drop (k + 1)))
    rw [hl]
    simp
set_option maxHeartbeats 4000000 in
set_option maxRecDepth 100000 in
theorem every_ok (s t : List UInt8) (W : World) (hT : Lib.Utf8Tabs 0 1 W) (hn : s.length ≤ 100000) (ht : t ≠ []) :
    Calls Tryz.prog 10 #[.string ⟨s.toArray⟩, .string ⟨t.toArray⟩, .agg #[.bool false, .bool false, .bool false]] W (EveryPost (Pieces.every t (Pieces.places width s (s.length + 1) 0)) W) := by
  have hte : t.isEmpty = false := by cases t with | nil => exact absurd rfl ht | cons a b => rfl
  have HT := Lib.hid hT; clear hT
  obtain ⟨pl, hpl⟩ : ∃ pl, Pieces.places width s (s.length + 1) 0 = pl := ⟨_, rfl⟩
  have hpne := places_ne width s s.length 0
  rw [hpl] at hpne
  have hcall := fun w (h : Lib.Utf8Tabs 0 1 w) => places_ok s w h hn
  rw [hpl] at hcall ⊢
  have HC := Lib.hid hcall; clear hcall
  have HP := Lib.hid hpl; clear hpl
  have HPN := Lib.hid hpne; clear hpne
  have HTN := Lib.hid ht; clear ht
  go_enter Tryz.func10, Tryz.ntmps10
  go_wp2_with fail
  go_step3
  go_wp2_with fail
  refine (HC.out _ (tabs_fr (Fr.alloc (fun _ => False) W _) HT.out id id)).mono ?_
  rintro e w1 ⟨v, rfl, hb1, hown1⟩
  obtain ⟨N, hN⟩ : ∃ N, pl.length = N := ⟨_, rfl⟩
  have hN0 : 0 < N := by have := List.length_pos_iff.2 HPN.out; omega
  rw [hN] at hown1
  obtain ⟨g, cap, rfl, hg1, _⟩ := hown1.form hN0
  have HB1 := Lib.hid hb1; clear hb1
  have HO1 := Lib.hid hown1; clear hown1
  have HN := Lib.hid hN; clear hN
  dsimp only
  go_wp2
  go_step3
  rename_i K hK
  refine hK _ _ ?_
  go_wp2
  go_loopw [28, 9] (fun i vo wr => ∃ (k : Nat) (acc : List (Nat × Nat)), k ≤ N ∧ i = .int .i64 k ∧ EV W t pl g N cap k acc vo wr) (fun i _ _ => N - (RowKit.intOf i).toNat)
  case atStart =>
    have hB := HB1.out
    have hO := HO1.out
    have h1 : Below W.heap.size W w1 := ((Below.refl W.heap.size W).alloc (Nat.le_refl _) _).trans (hB.mono (Nat.le_of_lt (by simp)))
    exact ⟨0, [], Nat.zero_le _, rfl, h1, own_base hO (fun j hj => Nat.le_trans (Nat.le_of_lt (by simp)) (own_lt hO hj).1), ⟨rfl, .inl ⟨rfl, rfl⟩⟩, Nat.le_refl _, rfl⟩
  case round =>
    obtain ⟨k, acc, hk, rfl, hE⟩ := hrel
    have HE := Lib.hid hE; clear hE
    by_cases hlt : k < N
    · obtain ⟨⟨a, sh⟩, hp⟩ : ∃ p, pl[k]? = some p := ⟨pl[k]'(by rw [HN.out]; exact hlt), List.getElem?_eq_getElem _⟩
      obtain ⟨c0, c1, c2⟩ := place_cells HE.out.plc hp
      have hk0 : (0 : Int) ≤ k := by omega
      have hk1 : (k : Int) < N := by omega
      go_wp2
      obtain ⟨w2, hw2⟩ : ∃ w2, wr.alloc (.cells #[.int .i64 a, .bool true, .string ⟨sh.toArray⟩] 56) = w2 := ⟨_, rfl⟩
      obtain ⟨pb, hpb⟩ : ∃ pb, wr.heap.size = pb := ⟨_, rfl⟩
      have hE2 : EV W t pl g N cap k acc u9 w2 := by rw [← hw2]; exact HE.out.below ((Below.refl _ _).alloc (Nat.le_refl _) _)
      have d0 : w2.cell? ⟨pb, 0, none⟩ = some (.int .i64 a) := by rw [← hw2, ← hpb, cell_of_row _ _ 0 _ _ _ (heap_alloc_new wr _)]; rfl
      rw [hw2, hpb]
      have HP2 := Lib.hid hp
      clear c0 c1 c2 hw2 hpb hp
      have HE2 := Lib.hid hE2; clear hE2
      have hNb : N ≤ 100001 := by
        have := places_length width s (s.length + 1) 0
        rw [HP.out, HN.out] at this
        omega
      have hwk : wrap64 ((k : Int) + 1) = ((k + 1 : Nat) : Int) := by unfold wrap64; omega
      have HWK := Lib.hid hwk; clear hwk
      go_hide hQ
      go_loop [12, 13, 9] (fun r jj v9 => v9 = u9 ∧ ∃ (j : Nat) (rest : List UInt8), k ≤ j ∧ j ≤ N ∧ r = .string ⟨rest.toArray⟩ ∧ jj = .int .i64 j ∧ Pieces.look rest (pl.drop j) = Pieces.look t (pl.drop k)) (fun _ jj _ => N - (RowKit.intOf jj).toNat)
      case atStart => exact ⟨rfl, k, t, Nat.le_refl _, hk, rfl, rfl, rfl⟩
      case round =>
        obtain ⟨rfl, j, rest, hkj, hj, rfl, rfl, hlook⟩ := hrel
        have HLK := Lib.hid hlook; clear hlook
        by_cases hjl : j < N
        · obtain ⟨⟨b, sj⟩, hq⟩ : ∃ p, pl[j]? = some p := ⟨pl[j]'(by rw [HN.out]; exact hjl), List.getElem?_eq_getElem _⟩
          obtain ⟨c0, c1, c2⟩ := place_cells HE2.out.plc hq
          have hdj := drop_at hq
          have hj0 : (0 : Int) ≤ j := by omega
          have hj1 : (j : Int) < N := by omega
          have HDJ := Lib.hid hdj; clear hdj
          clear hq
          by_cases hr : rest = []
          · subst hr
            have hsome : Pieces.look t (pl.drop k) = some b := by rw [← HLK.out, HDJ.out]; rfl
            have HSM := Lib.hid hsome; clear hsome
            have hal : acc.length ≤ 100001 := by have := HE2.out.len; omega
            obtain ⟨i0, hi0, hz0, hz1, hz2⟩ := info_parts match_info
            have hb63 : acc.length + 1 ≤ maxLen := by simp only [maxLen]; omega
            have hbase : W.heap.size ≤ w2.heap.size := HE2.out.bel.size
            have HB63 := Lib.hid hb63; clear hb63
            have HBASE := Lib.hid hbase; clear hbase
            have hfr : (w2.drew.alloc (.cells #[.int .i64 a, .int .i64 b] 39)).ownsRow W.heap.size 39 2 _ acc.length (matchesV acc) := (Fr.alloc (fun _ => False) w2.drew _).own HE2.out.out (fun _ _ => id)
            have HFR := Lib.hid hfr; clear hfr
            have hca := cell_alloc (w := w2) d0 (.cells #[.int .i64 a, .int .i64 b] 39)
            have hcb := cell_alloc (w := w2) c0 (.cells #[.int .i64 a, .int .i64 b] 39)
            go_wp2
            subst hQ
            go_region_law ((refine step_append_lies _ (by rfl) (.tmp 51) (.tmp 60) 34 (by rfl) W.heap.size 39 i0 _ 2 16 Tryz.underlying34 hi0 hz0 hz1 hz2 rfl (by omega) _ acc.length (matchesV acc) (by rfl) HFR.out ⟨w2.heap.size, 0, none⟩ 1 1 [.int .i64 a, .int .i64 b] (by rfl) (by rfl) (World.news_of_block (heap_alloc_new w2.drew _)) (one2 _ _ rfl rfl) (by omega) HB63.out (by omega) (Nat.le_trans HBASE.out (Nat.le_of_lt (by simp))) _ rfl ?_; intro g3 cap3 w3 hown3 hgrow3 _ _))
            all_goals (
              have hE3 := HE2.out.hit HP2.out HSM.out hgrow3 hown3
              have HE3 := Lib.hid hE3
              clear hE3 hown3 hgrow3)
            all_goals go_wp2
            all_goals exact ⟨⟨k + 1, acc ++ [(a, b)], hlt, by first | rw [HWK.out] | rfl, HE3.out⟩, by first | (rw [HWK.out]; simp [RowKit.intOf]; omega) | (simp [RowKit.intOf]; omega)⟩
          · have hre : rest.isEmpty = false := by cases rest with | nil => exact absurd rfl hr | cons a b => rfl
            have HR := Lib.hid hr; clear hr
            cases hcut : Pieces.cut rest sj with
            | none =>
              have hnone : Pieces.look t (pl.drop k) = none := by rw [← HLK.out, HDJ.out]; exact look_no HR.out hcut
              have HNO := Lib.hid hnone; clear hnone
              have HCUT := Lib.hid hcut; clear hcut
              go_wp2_with fail
              refine (Cut_no rest sj _ HCUT.out).mono ?_
              rintro e w4 ⟨rfl, rfl⟩
              dsimp only
              go_wp2
              subst hQ
              go_wp2
              exact ⟨⟨k + 1, acc, hlt, by first | rw [HWK.out] | rfl, HE2.out.skip HP2.out HNO.out⟩, by first | (rw [HWK.out]; simp [RowKit.intOf]; omega) | (simp [RowKit.intOf]; omega)⟩
            | some nx =>
              have HCUT := Lib.hid hcut; clear hcut
              by_cases hsj : sj = []
              · have hnone : Pieces.look t (pl.drop k) = none := by rw [← HLK.out, HDJ.out]; exact look_stop HR.out HCUT.out hsj
                have HNO := Lib.hid hnone; clear hnone
                have hsje : sj.isEmpty = true := by rw [hsj]; rfl
                clear hsj
                go_wp2_with fail
                refine (Cut_yes rest sj nx _ HCUT.out).mono ?_
                rintro e w4 ⟨rfl, rfl⟩
                dsimp only
                go_wp2
                subst hQ
                go_wp2
                exact ⟨⟨k + 1, acc, hlt, by first | rw [HWK.out] | rfl, HE2.out.skip HP2.out HNO.out⟩, by first | (rw [HWK.out]; simp [RowKit.intOf]; omega) | (simp [RowKit.intOf]; omega)⟩
              · have hgo : Pieces.look nx (pl.drop (j + 1)) = Pieces.look t (pl.drop k) := by rw [← HLK.out, HDJ.out]; exact (look_go HR.out HCUT.out hsj).symm
                have HGO := Lib.hid hgo; clear hgo
                have hsje : sj.isEmpty = false := by cases sj with | nil => exact absurd rfl hsj | cons a b => rfl
                have hwj : wrap64 ((j : Int) + 1) = ((j + 1 : Nat) : Int) := by unfold wrap64; omega
                have HWJ := Lib.hid hwj; clear hwj
                clear hsj
                go_wp2_with fail
                refine (Cut_yes rest sj nx _ HCUT.out).mono ?_
                rintro e w4 ⟨rfl, rfl⟩
                dsimp only
                go_wp2
                go_round
                case rel => exact ⟨rfl, j + 1, nx, by omega, by omega, rfl, by first | rw [HWJ.out] | rfl, HGO.out⟩
                case measure => first | (rw [HWJ.out]; simp [RowKit.intOf]; omega) | (simp [RowKit.intOf]; omega)
        · have hnone : Pieces.look t (pl.drop k) = none := by
            rw [← HLK.out, List.drop_eq_nil_of_le (by rw [HN.out]; omega)]
            unfold Pieces.look; rfl
          have HNO := Lib.hid hnone; clear hnone
          go_wp2
          subst hQ
          go_wp2
          exact ⟨⟨k + 1, acc, hlt, by first | rw [HWK.out] | rfl, HE2.out.skip HP2.out HNO.out⟩, by first | (rw [HWK.out]; simp [RowKit.intOf]; omega) | (simp [RowKit.intOf]; omega)⟩
    · have hkn : k = N := by omega
      have hl := HE.out.eq
      rw [List.drop_eq_nil_of_le (by rw [HN.out, hkn]; exact Nat.le_refl _)] at hl
      have HL := Lib.hid hl; clear hl
      obtain ⟨A9, c9, rfl, _⟩ := own_slice HE.out.out
      obtain ⟨m, hm⟩ : ∃ m, acc.length = m := ⟨_, rfl⟩
      have HM := Lib.hid hm
      rw [hm] at HE ⊢
      clear hm hkn
      go_wp2
      rw [Exit.noGoto_ret]
      go_ret
      refine ⟨_, rfl, HE.out.bel, ?_⟩
      have h := HE.out.out
      have e : acc = Pieces.every t pl := by rw [← HL.out]; simp [Pieces.every]
      rw [← e]
      exact h
end
section
open Go.Shelf Go.RowKit Go.Lib
open Pieces (bt width full)
/-! ### tell -/
def intsV (l : List Nat) : List Value := l.map fun (n : Nat) => .int .i64 (n : Int)
theorem intsV_app (l x : List Nat) : intsV (l ++ x) = intsV l ++ intsV x := by simp [intsV]
theorem int_info : (Tryz.prog.info? 3).map (fun i => (i.zero, i.size, i.bytes)) = some (some (.int .i64 0), 1, 8) := by kernel_rfl
def keep (done : Nat) (end_ : Int) (l : List (Nat × Nat)) : List Nat := (l.filter fun p => decide (done ≤ p.1 ∧ (p.2 : Int) ≤ end_)).map (·.1)
theorem matchesV_get : ∀ (l : List (Nat × Nat)) (k : Nat) (p : Nat × Nat), l[k]? = some p → (matchesV l)[k * 2]? = some (.int .i64 p.1) ∧ (matchesV l)[k * 2 + 1]? = some (.int .i64 p.2)
  | [], k, p, h => by simp at h
  | q :: l, 0, p, h => by
    simp at h
    subst h
    exact ⟨rfl, rfl⟩
  | q :: l, k + 1, p, h => by
    have ih := matchesV_get l k p (by simpa using h)
    have e : ∀ j, (matchesV (q :: l))[(k + 1) * 2 + j]? = (matchesV l)[k * 2 + j]? := fun j => by
      show (matchV q ++ matchesV l)[(k + 1) * 2 + j]? = _
      rw [List.getElem?_append_right (by simp [matchV]; omega)]
      congr 1
      simp [matchV]; omega
    exact ⟨by have := e 0; rw [Nat.add_zero, Nat.add_zero] at this; rw [this]; exact ih.1, by rw [e 1]; exact ih.2⟩
theorem match_cells {w : World} {base g n cap : Nat} {l : List (Nat × Nat)} (h : w.ownsRow base 39 2 (.slice (some ⟨g, 0, none⟩) n cap) n (matchesV l)) {k : Nat} {p : Nat × Nat} (hk : l[k]? = some p) :
    w.cell? ⟨g, k * 2, none⟩ = some (.int .i64 p.1) ∧ w.cell? ⟨g, k * 2 + 1, none⟩ = some (.int .i64 p.2) := by
  obtain ⟨h0, h1⟩ := matchesV_get l k p hk
  have c := fun j u hj => h.cells (g := g) rfl j u hj
  have e : ∀ j, (⟨g, 0, none⟩ : Addr).add j = ⟨g, j, none⟩ := fun j => by rw [add_none, Nat.zero_add]
  refine ⟨?_, ?_⟩
  · have := c _ _ h0; rwa [e] at this
  · have := c _ _ h1; rwa [e] at this
theorem keep_take {done : Nat} {end_ : Int} {l : List (Nat × Nat)} {k : Nat} {p : Nat × Nat} (h : l[k]? = some p) (hp : done ≤ p.1 ∧ (p.2 : Int) ≤ end_) : keep done end_ (l.drop k) = p.1 :: keep done end_ (l.drop (k + 1)) := by
  rw [drop_at h]
  unfold keep
  rw [List.filter_cons_of_pos (by rw [decide_eq_true_iff]; exact hp)]
  rfl
theorem keep_skip {done : Nat} {end_ : Int} {l : List (Nat × Nat)} {k : Nat} {p : Nat × Nat} (h : l[k]? = some p) (hp : ¬ (done ≤ p.1 ∧ (p.2 : Int) ≤ end_)) : keep done end_ (l.drop k) = keep done end_ (l.drop (k + 1)) := by
  rw [drop_at h]
  unfold keep
  rw [List.filter_cons_of_neg (by rw [decide_eq_true_iff]; exact hp)]
/-- a finder in memory -/
structure Fi (w : World) (xb sb : Nat) (t tx : List UInt8) (done : Nat) : Prop where
  blk : w.heap[xb]? = some (.cells #[.string ⟨t.toArray⟩, .string ⟨tx.toArray⟩, .pointer (some ⟨sb, 0, none⟩), .int .i64 done] 46 (0, 0))
structure TL (W : World) (done : Nat) (end_ : Int) (ms : List (Nat × Nat)) (A : Option Addr) (M c i : Nat) (acc : List Nat) (vo : Value) (w : World) : Prop where
  bel : Below W.heap.size W w
  row : w.ownsRow W.heap.size 39 2 (.slice A M c) M (matchesV ms)
  out : w.ownsRow W.heap.size 3 1 vo acc.length (intsV acc)
  len : acc.length ≤ i
  eq : acc ++ keep done end_ (ms.drop i) = keep done end_ ms
theorem TL.below {W : World} {done : Nat} {end_ : Int} {ms : List (Nat × Nat)} {A : Option Addr} {M c i : Nat} {acc : List Nat} {vo : Value} {w w1 : World} (h : TL W done end_ ms A M c i acc vo w) (hb : Below w.heap.size w w1) : TL W done end_ ms A M c i acc vo w1 :=
  ⟨h.bel.trans (hb.mono h.bel.size), (Fr.of_below (T := fun _ => False) hb (Nat.le_refl _)).own h.row (fun _ _ => id), (Fr.of_below (T := fun _ => False) hb (Nat.le_refl _)).own h.out (fun _ _ => id), h.len, h.eq⟩
theorem TL.skip {W : World} {done : Nat} {end_ : Int} {ms : List (Nat × Nat)} {A : Option Addr} {M c k : Nat} {acc : List Nat} {vo : Value} {w : World} {p : Nat × Nat} (h : TL W done end_ ms A M c k acc vo w) (hp : ms[k]? = some p) (hl : ¬ (done ≤ p.1 ∧ (p.2 : Int) ≤ end_)) :
    TL W done end_ ms A M c (k + 1) acc vo w := ⟨h.bel, h.row, h.out, Nat.le_succ_of_le h.len, by rw [← h.eq, keep_skip hp hl]⟩
theorem TL.hit {W : World} {done : Nat} {end_ : Int} {ms : List (Nat × Nat)} {A : Option Addr} {M c k : Nat} {acc : List Nat} {vo v' : Value} {w w3 : World} {o : Obj} {p : Nat × Nat} (h : TL W done end_ ms A M c k acc vo w) (hp : ms[k]? = some p) (hl : done ≤ p.1 ∧ (p.2 : Int) ≤ end_)
    (hg : (w.alloc o).grownBy w3 vo.ownBlock) (hown : w3.ownsRow W.heap.size 3 1 v' (acc.length + 1) (intsV acc ++ [.int .i64 p.1])) : TL W done end_ ms A M c (k + 1) (acc ++ [p.1]) v' w3 := by
  have hf : Fr (fun j => vo.ownBlock = some j) w w3 := (Fr.alloc _ w o).trans (Fr.grown hg (fun _ h _ => h))
  refine ⟨⟨h.bel.os ▸ hf.os, h.bel.tape ▸ hf.tape, h.bel.output ▸ hf.output, Nat.le_trans h.bel.size hf.size, fun j hj => ?_⟩, hf.own h.row ?_, ?_, ?_, ?_⟩
  · rw [hf.block j (Nat.lt_of_lt_of_le hj h.bel.size) (fun c => by have := (own_lt h.out c).1; omega)]
    exact h.bel.block j hj
  · intro j hj c
    obtain ⟨_, _, cur, hcur⟩ := own_lt h.row hj
    obtain ⟨_, _, cur2, hcur2⟩ := own_lt h.out c
    rw [hcur] at hcur2
    cases hcur2
  · rw [intsV_app, List.length_append]
    exact hown
  · rw [List.length_append]
    exact Nat.succ_le_succ h.len
  · rw [← h.eq, keep_take hp hl]
    simp
def TellPost (xb sb : Nat) (t tx : List UInt8) (done : Nat) (out : List Nat) (W : World) (e : Ending) (w' : World) : Prop :=
  ∃ v, e = .returned v ∧ Fr (fun k => k = xb) W w' ∧ Fi w' xb sb t tx (Pieces.next out done) ∧ w'.ownsRow W.heap.size 3 1 v out.length (intsV out)
theorem next_nil (d : Nat) : Pieces.next [] d = d := rfl
theorem next_last {l : List Nat} {f : Nat} (h : l.getLast? = some f) (d : Nat) : Pieces.next l d = f + 1 := by
  unfold Pieces.next
  rw [h]
theorem intsV_last {l : List Nat} {m f : Nat} (hm : l.length = m + 1) (h : l.getLast? = some f) : (intsV l)[m]? = some (.int .i64 f) := by
  rw [List.getLast?_eq_getElem?, hm] at h
  unfold intsV
  rw [List.getElem?_map]
  rw [show m + 1 - 1 = m from rfl] at h
  rw [h]
  rfl
set_option maxHeartbeats 4000000 in
set_option maxRecDepth 100000 in
theorem tell_ok (xb sb : Nat) (t tx : List UInt8) (done : Nat) (end_ : Int) (ms : List (Nat × Nat)) (W : World) (hF : Fi W xb sb t tx done) (hT : Lib.Utf8Tabs 0 1 W) (hn : tx.length ≤ 100000) (ht : t ≠ [])
    (hms : Pieces.every t (Pieces.places width tx (tx.length + 1) 0) = ms) (hlen : ms.length ≤ 100001) (hsm : ∀ p ∈ ms, p.1 ≤ 100001) (_ : done ≤ 200000) :
    Calls Tryz.prog 16 #[.pointer (some ⟨xb, 0, none⟩), .int .i64 end_] W (TellPost xb sb t tx done (keep done end_ ms) W) := by
  have hxb := heap_lt hF.blk
  have c0 : W.cell? ⟨xb, 0, none⟩ = some (.string ⟨t.toArray⟩) := by rw [cell_of_row W xb 0 _ _ _ hF.blk]; rfl
  have c1 : W.cell? ⟨xb, 1, none⟩ = some (.string ⟨tx.toArray⟩) := by rw [cell_of_row W xb 1 _ _ _ hF.blk]; rfl
  have hcall := every_ok tx t W.drew hT hn ht
  rw [hms] at hcall
  have HC := Lib.hid hcall; have HF := Lib.hid hF; have HT := Lib.hid hT; have HMS := Lib.hid hms; have HSM := Lib.hid hsm
  clear hcall hF hT hms hsm
  obtain ⟨M, hM⟩ : ∃ M, ms.length = M := ⟨_, rfl⟩
  rw [hM] at hlen
  have HM := Lib.hid hM; clear hM
  go_enter Tryz.func16, Tryz.ntmps16
  go_wp2_with fail
  go_region_held3 (fun w' => w'.cell? ⟨xb, 1, none⟩ = some (.string ⟨tx.toArray⟩) ∧ w'.cell? ⟨xb, 0, none⟩ = some (.string ⟨t.toArray⟩))
    (first
      | go_keep
      | exact ⟨(HB1.out.cell (p := ⟨xb, 1, none⟩) hxb).trans c1, (HB1.out.cell (p := ⟨xb, 0, none⟩) hxb).trans c0⟩)
    ((go_at_call 10
      refine HC.out.mono ?_
      rintro e w1 ⟨v, rfl, hb1, hown1⟩
      rw [HM.out] at hown1
      obtain ⟨A, c, rfl, _⟩ := own_slice hown1
      have HB1 := Lib.hid hb1; clear hb1
      have HO1 := Lib.hid hown1; clear hown1))
  go_wp2
  go_loopw [19, 5] (fun i vo wr => ∃ (k : Nat) (acc : List Nat), k ≤ M ∧ i = .int .i64 k ∧ TL W done end_ ms A M c k acc vo wr) (fun i _ _ => M - (RowKit.intOf i).toNat)
  case atStart =>
    have hB := HB1.out
    exact ⟨0, [], Nat.zero_le _, rfl, ⟨hB.os, hB.tape, hB.output, hB.size, hB.block⟩, HO1.out, ⟨rfl, .inl ⟨rfl, rfl⟩⟩, Nat.le_refl _, rfl⟩
  case round =>
    obtain ⟨k, acc, hk, rfl, hE⟩ := hrel
    have HE := Lib.hid hE; clear hE
    by_cases hlt : k < M
    · obtain ⟨⟨a, b⟩, hp⟩ : ∃ p, ms[k]? = some p := ⟨ms[k]'(by rw [HM.out]; exact hlt), List.getElem?_eq_getElem _⟩
      obtain ⟨g, cap, hv, _⟩ := HE.out.row.form (by omega)
      obtain ⟨rfl, _, rfl⟩ : A = some ⟨g, 0, none⟩ ∧ M = M ∧ c = cap := by injection hv with h1 h2 h3; exact ⟨h1, rfl, h3⟩
      clear hv
      obtain ⟨d0, d1⟩ := match_cells HE.out.row hp
      have hk0 : (0 : Int) ≤ k := by omega
      have hk1 : (k : Int) < M := by omega
      have hblk := below_blk HE.out.bel HF.out.blk hxb
      have c3 : wr.cell? ⟨xb, 3, none⟩ = some (.int .i64 done) := by rw [cell_of_row wr xb 3 _ _ _ hblk]; rfl
      have hne : wr.heap.size ≠ xb := by have := heap_lt hblk; omega
      clear hblk
      have HP := Lib.hid hp; clear hp
      have hwk : wrap64 ((k : Int) + 1) = ((k + 1 : Nat) : Int) := by unfold wrap64; omega
      have HWK := Lib.hid hwk; clear hwk
      go_wp2
      obtain ⟨w2, hw2⟩ : ∃ w2, wr.alloc (.cells #[.int .i64 a, .int .i64 b] 39) = w2 := ⟨_, rfl⟩
      obtain ⟨pb, hpb⟩ : ∃ pb, wr.heap.size = pb := ⟨_, rfl⟩
      have hE2 : TL W done end_ ms (some ⟨g, 0, none⟩) M c k acc u5 w2 := by rw [← hw2]; exact HE.out.below ((Below.refl _ _).alloc (Nat.le_refl _) _)
      have e0 : w2.cell? ⟨pb, 0, none⟩ = some (.int .i64 a) := by rw [← hw2, ← hpb, cell_of_row _ _ 0 _ _ _ (heap_alloc_new wr _)]; rfl
      have e1 : w2.cell? ⟨pb, 1, none⟩ = some (.int .i64 b) := by rw [← hw2, ← hpb, cell_of_row _ _ 1 _ _ _ (heap_alloc_new wr _)]; rfl
      have e3 : w2.cell? ⟨xb, 3, none⟩ = some (.int .i64 done) := by rw [← hw2]; exact cell_alloc c3 _
      rw [hw2, hpb]
      clear d0 d1 c3 hw2 hpb hne
      have HE2 := Lib.hid hE2; clear hE2
      by_cases hda : (done : Int) ≤ a
      · by_cases hbe : (b : Int) ≤ end_
        · have hkp : done ≤ a ∧ (b : Int) ≤ end_ := ⟨by omega, hbe⟩
          have HKP := Lib.hid hkp; clear hkp
          go_quiet (fail)
          rename_i nq
          obtain ⟨w4, hw4⟩ : ∃ w4, w2.drewN nq = w4 := ⟨_, rfl⟩
          have hE4 : TL W done end_ ms (some ⟨g, 0, none⟩) M c k acc u5 w4 := by rw [← hw4]; exact HE2.out.below (below_drewN (Below.refl _ _) _)
          have e4 : w4.cell? ⟨pb, 0, none⟩ = some (.int .i64 a) := by rw [← hw4]; exact e0
          rw [hw4]
          clear e0 e1 e3 hw4
          have HE4 := Lib.hid hE4; clear hE4
          obtain ⟨i0, hi0, hz0, hz1, hz2⟩ := info_parts int_info
          have hb63 : acc.length + 1 ≤ maxLen := by have := HE4.out.len; simp only [maxLen]; omega
          have hal : acc.length ≤ 100001 := by have := HE4.out.len; omega
          have HB63 := Lib.hid hb63; clear hb63
          go_wp2_with
            (at_builtin
             (refine wpList_append_lies _ rfl (.tmp 36) (.tmp 39) 30 rfl W.heap.size 3 i0 _ 1 8 Tryz.underlying30 hi0 hz0 hz1 hz2 rfl (by omega) _ acc.length (intsV acc) rfl ((Fr.alloc (fun _ => False) w4 _).own HE4.out.out (fun _ _ => id)) ⟨w4.heap.size, 0, none⟩ 1 1 [.int .i64 a] rfl rfl ?_ ?_ (by omega) HB63.out ?_ ?_ _ rfl ?_)
             · exact World.news_of_block (heap_alloc_new w4 _)
             · intro u hu; rw [List.mem_singleton] at hu; subst hu; rfl
             · omega
             · exact Nat.le_trans HE4.out.bel.size (Nat.le_of_lt (by simp))
             intro g3 cap3 w3 hown3 hgrow3 _ _
             have hE3 := HE4.out.hit HP.out HKP.out hgrow3 hown3
             have HE3 := Lib.hid hE3; clear hE3 hown3 hgrow3)
          exact ⟨⟨k + 1, acc ++ [a], hlt, by first | rw [HWK.out] | rfl, HE3.out⟩, by first | (rw [HWK.out]; simp [RowKit.intOf]; omega) | (simp [RowKit.intOf]; omega)⟩
        · have hkp : ¬ (done ≤ a ∧ (b : Int) ≤ end_) := fun h => hbe h.2
          have hdb : decide ((b : Int) ≤ end_) = false := decide_eq_false hbe
          have HKP := Lib.hid hkp; clear hkp hbe
          go_quiet (fail)
          go_wp2
          exact ⟨⟨k + 1, acc, hlt, by first | rw [HWK.out] | rfl, (HE2.out.below (below_drewN (Below.refl _ _) _)).skip HP.out HKP.out⟩, by first | (rw [HWK.out]; simp [RowKit.intOf]; omega) | (simp [RowKit.intOf]; omega)⟩
      · have hkp : ¬ (done ≤ a ∧ (b : Int) ≤ end_) := fun h => hda (by omega)
        have hdb : decide ((done : Int) ≤ a) = false := decide_eq_false hda
        have hdb2 : decide (done ≤ a) = false := decide_eq_false (by omega)
        have HKP := Lib.hid hkp; clear hkp hda
        go_quiet (fail)
        go_wp2
        exact ⟨⟨k + 1, acc, hlt, by first | rw [HWK.out] | rfl, (HE2.out.below (below_drewN (Below.refl _ _) _)).skip HP.out HKP.out⟩, by first | (rw [HWK.out]; simp [RowKit.intOf]; omega) | (simp [RowKit.intOf]; omega)⟩
    · have hkn : k = M := by omega
      have hl := HE.out.eq
      rw [List.drop_eq_nil_of_le (by rw [HM.out, hkn]; exact Nat.le_refl _)] at hl
      have hl2 : acc = keep done end_ ms := by rw [← hl]; simp [keep]
      have HL := Lib.hid hl2; clear hl hl2 hkn
      have hmem : ∀ f ∈ acc, f ≤ 100001 := by
        intro f hf
        rw [HL.out] at hf
        obtain ⟨p, hp, rfl⟩ := List.mem_map.1 hf
        exact HSM.out p (List.mem_filter.1 hp).1
      obtain ⟨A5, c5, rfl, _⟩ := own_slice HE.out.out
      obtain ⟨m, hm⟩ : ∃ m, acc.length = m := ⟨_, rfl⟩
      have HMM := Lib.hid hm
      have hO := HE.out.out
      have hB := HE.out.bel
      rw [hm] at hO ⊢
      have HO := Lib.hid hO
      have HB := Lib.hid hB
      have HMEM := Lib.hid hmem
      clear hm hO hB HE hmem
      have hblk := below_blk HB.out HF.out.blk hxb
      rcases Nat.eq_zero_or_pos m with h0 | h0
      · subst h0
        have hnil := List.eq_nil_of_length_eq_zero HMM.out
        have HNIL := Lib.hid hnil; clear hnil
        have HBK := Lib.hid hblk; clear hblk
        go_wp2
        go_ret
        rw [← HL.out]
        refine ⟨_, rfl, Fr.of_below HB.out (Nat.le_refl _), ?_, ?_⟩
        · rw [HNIL.out]; exact ⟨HBK.out⟩
        · rw [HMM.out]; exact HO.out
      · obtain ⟨m', hm'⟩ : ∃ m', m = m' + 1 := ⟨m - 1, by omega⟩
        obtain ⟨g5, cap5, hv, _⟩ := HO.out.form h0
        obtain ⟨rfl, rfl⟩ : A5 = some ⟨g5, 0, none⟩ ∧ c5 = cap5 := by injection hv with h1 h2 h3; exact ⟨h1, h3⟩
        clear hv
        obtain ⟨f, hf⟩ : ∃ f, acc.getLast? = some f := by
          cases h : acc.getLast? with
          | none =>
            rw [List.getLast?_eq_none_iff] at h
            have := HMM.out
            rw [h] at this
            rw [← this] at h0
            exact absurd h0 (by simp)
          | some f => exact ⟨f, rfl⟩
        have hfb := HMEM.out f (List.mem_of_getLast? hf)
        have hcell : wr.cell? ⟨g5, m', none⟩ = some (.int .i64 f) := by
          have := HO.out.cells (g := g5) rfl _ _ (intsV_last (by rw [HMM.out, hm']) hf)
          rwa [add_none, Nat.zero_add] at this
        have c3 : wr.cell? ⟨xb, 3, none⟩ = some (.int .i64 done) := by rw [cell_of_row wr xb 3 _ _ _ hblk]; rfl
        have hfr := blk_frozen hblk 3
        have HFF := Lib.hid hf; clear hf
        have HBK := Lib.hid hblk; clear hblk
        have hal : m' ≤ 100001 := by
          have := HMM.out
          have h1 : acc.length ≤ ms.length := by rw [HL.out]; unfold keep; rw [List.length_map]; exact List.length_filter_le _ _
          rw [HM.out] at h1
          omega
        obtain ⟨f1, hf1⟩ : ∃ f1, f + 1 = f1 := ⟨_, rfl⟩
        have hw1 : wrap64 ((m : Int) - 1) = m' := by unfold wrap64; omega
        have hw4 : wrap64 ((f : Int) + 1) = f1 := by unfold wrap64; omega
        have hp0 : (0 : Int) < m := by omega
        have hi0 : (0 : Int) ≤ m' := by omega
        have hi1 : (m' : Int) < m := by omega
        have HF1 := Lib.hid hf1; clear hf1 hm' hal hfb
        clear hlen hk hn
        go_wp2
        go_ret
        rw [← HL.out]
        refine ⟨_, rfl, (Fr.of_below HB.out (Nat.le_refl _)).trans (Fr.set (T := fun k => k = xb) _ ⟨xb, 3, none⟩ _ (fun _ => rfl)), ?_, ?_⟩
        · rw [next_last HFF.out, HF1.out]
          exact ⟨set_blk HBK.out 3 _⟩
        · rw [HMM.out]
          refine (Fr.set (T := fun k => k = xb) wr ⟨xb, 3, none⟩ _ (fun _ => rfl)).own HO.out ?_
          intro g hg c
          have := (own_lt HO.out hg).1
          omega
end
section
open Go.Shelf Go.RowKit Go.Lib
open Pieces (bt width full)
/-! ### Write -/
theorem conv_br {w : World} {B : Nat} {A : Option Addr} {m : Nat} {l : List UInt8} (h : BR w B A m l) (c : Nat) : (convert 31 9 (.slice A m c)).run Tryz.prog w = .ok (.string ⟨l.toArray⟩) w := by
  rcases Nat.eq_zero_or_pos m with h0 | h0
  · subst h0
    obtain rfl : l = [] := List.eq_nil_of_length_eq_zero h.1
    cases A with
    | none => exact run_convert_bytes_nil w 31 5 Tryz.underlying31 Tryz.underlying5 0 c 9 Tryz.underlying9
    | some a => exact run_convert_bytes_back w 31 9 5 a c [] Tryz.underlying31 Tryz.underlying5 Tryz.underlying9 (fun j hj => by simp at hj)
  · obtain ⟨g, off, rfl, _, hc⟩ := h.2 h0
    have := run_convert_bytes_back w 31 9 5 ⟨g, off, none⟩ c l Tryz.underlying31 Tryz.underlying5 Tryz.underlying9 (fun j hj => by
      rw [add_none, hc j (by rw [← h.1]; exact hj)]
      unfold bt
      rw [List.getD_eq_getElem?_getD, List.getElem?_eq_getElem hj]
      rfl)
    rwa [h.1] at this
theorem mk_append (a b : List UInt8) : (⟨a.toArray⟩ : ByteArray) ++ (⟨b.toArray⟩ : ByteArray) = ⟨(a ++ b).toArray⟩ := by
  apply ByteArray.ext
  show ((⟨a.toArray⟩ : ByteArray).append ⟨b.toArray⟩).data = _
  simp
structure WrPost (xb sb : Nat) (hv : Value) (t tx' held' : List UInt8) (done : Nat) (out : List Nat) (W : World) (e : Ending) (w' : World) : Prop where
  ret : ∃ v, e = .returned v ∧ w'.ownsRow W.heap.size 3 1 v out.length (intsV out)
  fr : Fr (fun k => k = xb ∨ k = sb ∨ hv.ownBlock = some k) W w'
  fi : Fi w' xb sb t tx' (Pieces.next out done)
  sc : ∃ hv' fed', Sc w' sb hv' fed' held' W.heap.size
theorem Sc.fr {T : Nat → Prop} {w w' : World} {sb : Nat} {hv : Value} {fed : Int} {held : List UInt8} {base : Nat} (h : Sc w sb hv fed held base) (hf : Fr T w w') (h1 : ¬ T sb) (h2 : ∀ g, hv.ownBlock = some g → ¬ T g) : Sc w' sb hv fed held base :=
  ⟨hf.blk h.blk h1, hf.own h.own h2⟩
theorem Sc.ne_xb {w : World} {xb sb : Nat} {t tx : List UInt8} {done : Nat} {hv : Value} {fed : Int} {held : List UInt8} {base : Nat} (hS : Sc w sb hv fed held base) (hF : Fi w xb sb t tx done) : sb ≠ xb ∧ ∀ g, hv.ownBlock = some g → g ≠ xb := by
  refine ⟨blk_ty hS.blk hF.blk (by decide), fun g hg => ?_⟩
  obtain ⟨_, _, cur, hcur⟩ := own_lt hS.own hg
  exact blk_ty hcur hF.blk (by decide)
theorem br_fr_fi {w w1 : World} {xb sb : Nat} {t tx p : List UInt8} {done m : Nat} {A : Option Addr} (hp : BR w w.heap.size A m p) (hF : Fi w xb sb t tx done) (hf : Fr (fun k => k = xb) w w1) : BR w1 w1.heap.size A m p := by
  refine ⟨hp.1, fun hm => ?_⟩
  obtain ⟨g, off, hA, hg, hc⟩ := hp.2 hm
  refine ⟨g, off, hA, Nat.lt_of_lt_of_le hg hf.size, fun j hj => ?_⟩
  have hne : ¬ g = xb := by
    rintro rfl
    have := hc j hj
    rw [cell_of_row w g _ _ _ _ hF.blk] at this
    match off + j, this with
    | 0, h => cases h
    | 1, h => cases h
    | 2, h => cases h
    | 3, h =>
      injection h with h
      injection h with h
      cases h
    | _ + 4, h => simp at h
  rw [hf.cell (p := ⟨g, off + j, none⟩) (cell_lt (hc j hj)) hne]
  exact hc j hj
theorem drain_len : ∀ (f : Nat) (b : List UInt8), (Pieces.drain f b).length ≤ b.length
  | 0, _ => Nat.le_refl _
  | f + 1, b => by
    show (open Classical in if full b then Pieces.drain f (b.drop (width b)) else b : List UInt8).length ≤ _
    split
    · exact Nat.le_trans (drain_len f _) (by rw [List.length_drop]; omega)
    · exact Nat.le_refl _
set_option maxHeartbeats 2000000 in
set_option maxRecDepth 100000 in
theorem write_ok (xb sb : Nat) (t tx held p : List UInt8) (hv : Value) (fed : Int) (done n base : Nat) (A : Option Addr) (m c : Nat) (ms : List (Nat × Nat)) (held' tx' : List UInt8) (N M : Nat) (E : Int) (W : World)
    (hF : Fi W xb sb t tx done) (hS : Sc W sb hv fed held base) (hp : BR W W.heap.size A m p) (hbase : base ≤ W.heap.size) (hn : held.length = n) (hsm : n + m ≤ 4000000) (hT : Lib.Utf8Tabs 0 1 W) (hx2 : 2 ≤ xb) (hs2 : 2 ≤ sb) (h2 : ∀ g, hv.ownBlock = some g → 2 ≤ g)
    (htx' : tx ++ p = tx') (hN : tx'.length = N) (hNb : N ≤ 100000) (ht : t ≠ []) (hms : Pieces.every t (Pieces.places width tx' (tx'.length + 1) 0) = ms) (hlen : ms.length ≤ 100001) (hbs : ∀ q ∈ ms, q.1 ≤ 100001) (hd : done ≤ 200000)
    (hheld : Pieces.drain (n + m) (held ++ p) = held') (hM : held'.length = M) (hE : (N : Int) - M = E) :
    Calls Tryz.prog 8 #[.pointer (some ⟨xb, 0, none⟩), .slice A m c] W (WrPost xb sb hv t tx' held' done (keep done E ms) W) := by
  have hxb := heap_lt hF.blk
  have hsb := heap_lt hS.blk
  have c1 : W.drew.cell? ⟨xb, 1, none⟩ = some (.string ⟨tx.toArray⟩) := by rw [cell_of_row W.drew xb 1 _ _ _ hF.blk]; rfl
  have hfz := blk_frozen hF.blk 1
  have hcv := conv_br (w := W.drew) hp c
  have hcat := mk_append tx p
  rw [htx'] at hcat
  have hnl : ¬ (9223372036854775807 < tx.length + p.length) := by rw [← List.length_append, htx', hN]; omega
  have hMb : M ≤ n + m := by
    have := drain_len (n + m) (held ++ p)
    rw [hheld, hM, List.length_append, hn, hp.1] at this
    exact this
  obtain ⟨w1, hw1⟩ : ∃ w1, (W.setCell ⟨xb, 1, none⟩ (.string ⟨tx'.toArray⟩)).drew = w1 := ⟨_, rfl⟩
  have hf1 : Fr (fun k => k = xb) W w1 := by rw [← hw1]; exact (Fr.set (T := fun k => k = xb) W ⟨xb, 1, none⟩ _ (fun _ => rfl)).trans (Fr.drew _ _)
  have hF1 : Fi w1 xb sb t tx' done := by rw [← hw1]; exact ⟨set_blk hF.blk 1 _⟩
  obtain ⟨hne1, hne2⟩ := hS.ne_xb hF
  have hS1 : Sc w1 sb hv fed held base := hS.fr hf1 hne1 hne2
  have hT1 := tabs_fr hf1 hT (by omega) (by omega)
  have hbr1 := br_fr_fi hp hF hf1
  have hfeed := Feed_ok sb hv fed held p base A m c n w1 hS1 hbr1 (Nat.le_trans hbase hf1.size) hn hsm hT1 hs2 h2
  rw [hheld] at hfeed
  have c2 : W.cell? ⟨xb, 2, none⟩ = some (.pointer (some ⟨sb, 0, none⟩)) := by rw [cell_of_row W xb 2 _ _ _ hF.blk]; rfl
  have hwr : IntKind.i64.wrap ((N : Int) - M) = E := by rw [IntWalk.i64_in _ (by omega)]; exact hE
  have hwr2 : wrap64 ((N : Int) - M) = E := by unfold wrap64; omega
  have HFD := Lib.hid hfeed; have HF1 := Lib.hid hF1; have HFR1 := Lib.hid hf1; have HT1 := Lib.hid hT1; have HNE1 := Lib.hid hne1; have HNE2 := Lib.hid hne2; have H2 := Lib.hid h2; have HMS := Lib.hid hms; have HBS := Lib.hid hbs; have HM := Lib.hid hM; have HNN := Lib.hid hN; have HW1 := Lib.hid hw1
  clear hw1 hfeed hF1 hf1 hT1 hne1 hne2 h2 hms hbs hM hheld htx' hE hMb hS1 hbr1 hp hF hS hbase hn hT
  go_enter Tryz.func8, Tryz.ntmps8
  go_wp2_with fail
  go_region
  go_wp2_with fail
  rw [HW1.out]
  refine HFD.out.mono ?_
  rintro e w2 ⟨⟨v, rfl⟩, hf2, hv', fed', hS2⟩
  have hF2 : Fi w2 xb sb t tx' done := ⟨hf2.blk HF1.out.blk (by rintro (h | h); exact HNE1.out h.symm; exact HNE2.out xb h rfl)⟩
  have hT2 := tabs_fr hf2 HT1.out (by rintro (h | h); omega; exact absurd (H2.out 0 h) (by omega)) (by rintro (h | h); omega; exact absurd (H2.out 1 h) (by omega))
  have hown2 := hS2.own
  rw [HM.out] at hown2
  obtain ⟨A2, c2', rfl, _⟩ := own_slice hown2
  have d0 : w2.cell? ⟨sb, 0, none⟩ = some (.slice A2 M c2') := by rw [cell_of_row w2 sb 0 _ _ _ hS2.blk]; rfl
  have d1 : w2.cell? ⟨xb, 1, none⟩ = some (.string ⟨tx'.toArray⟩) := by rw [cell_of_row w2 xb 1 _ _ _ hF2.blk]; rfl
  have d2 : w2.cell? ⟨xb, 2, none⟩ = some (.pointer (some ⟨sb, 0, none⟩)) := by rw [cell_of_row w2 xb 2 _ _ _ hF2.blk]; rfl
  have htell := tell_ok xb sb t tx' done E ms w2.drew ⟨hF2.blk⟩ hT2 (by rw [HNN.out]; exact hNb) ht HMS.out hlen HBS.out hd
  have HTL := Lib.hid htell; have HF2 := Lib.hid hF2; have HS2 := Lib.hid hS2; have HFR2 := Lib.hid hf2
  clear htell hF2 hS2 hf2 hT2 hown2 hcat hcv c1 c2 hfz hnl HW1
  dsimp only
  go_wp2_with fail
  go_region_held3 (fun w' => w'.cell? ⟨xb, 1, none⟩ = some (.string ⟨tx'.toArray⟩) ∧ w'.cell? ⟨xb, 2, none⟩ = some (.pointer (some ⟨sb, 0, none⟩)))
    (first
      | go_keep
      | exact ⟨by rw [cell_of_row _ xb 1 _ _ _ HF3.out.blk]; rfl, by rw [cell_of_row _ xb 2 _ _ _ HF3.out.blk]; rfl⟩)
    (first
      | (go_at_call 17
         refine (Held_ok sb M A2 c2' w2.drew d0).mono ?_
         rintro e w3 ⟨rfl, rfl⟩)
      | (go_at_call 16
         refine HTL.out.mono ?_
         rintro e w3 ⟨v3, rfl, hf3, hF3, hown3⟩
         have HF3 := Lib.hid hF3; have HFR3 := Lib.hid hf3; have HO3 := Lib.hid hown3
         clear hF3 hf3 hown3))
  go_wp2
  go_ret
  have hsz : W.heap.size ≤ w2.heap.size := Nat.le_trans HFR1.out.size HFR2.out.size
  obtain ⟨k1, k2⟩ := HS2.out.ne_xb HF2.out
  have hf3 : Fr (fun k => k = xb) w2 w3 := (Fr.drew _ w2).trans HFR3.out
  have hS3 : Sc w3 sb _ fed' held' _ := HS2.out.fr hf3 k1 k2
  refine ⟨⟨_, rfl, own_base HO3.out fun g hg => Nat.le_trans hsz (own_lt HO3.out hg).1⟩, ?_, HF3.out, _, fed', hS3.blk, own_base hS3.own fun g hg => Nat.le_trans HFR1.out.size (own_lt hS3.own hg).1⟩
  have q1 : Fr (fun k => k = xb ∨ k = sb ∨ hv.ownBlock = some k) W w1 := HFR1.out.mono (fun k _ h => .inl h)
  have q2 : Fr (fun k => k = xb ∨ k = sb ∨ hv.ownBlock = some k) w1 w2 := HFR2.out.mono (fun k _ h => .inr h)
  have q3 : Fr (fun k => k = xb ∨ k = sb ∨ hv.ownBlock = some k) w2 w3 := hf3.mono (fun k _ h => .inl h)
  exact (q1.trans q2).trans q3
end
section
open Go.Shelf Go.RowKit Go.Lib
open Pieces (bt width full)
/-! ### Close, New, num -/
set_option maxHeartbeats 2000000 in
set_option maxRecDepth 100000 in
theorem close_ok (xb sb : Nat) (t tx held : List UInt8) (hv : Value) (fed : Int) (done base : Nat) (ms : List (Nat × Nat)) (N : Nat) (W : World)
    (hF : Fi W xb sb t tx done) (hS : Sc W sb hv fed held base) (hn : held.length ≤ 4000000) (hT : Lib.Utf8Tabs 0 1 W) (hx2 : 2 ≤ xb) (hs2 : 2 ≤ sb)
    (hN : tx.length = N) (hNb : N ≤ 100000) (ht : t ≠ []) (hms : Pieces.every t (Pieces.places width tx (tx.length + 1) 0) = ms) (hlen : ms.length ≤ 100001) (hbs : ∀ q ∈ ms, q.1 ≤ 100001) (hd : done ≤ 200000) :
    Calls Tryz.prog 9 #[.pointer (some ⟨xb, 0, none⟩)] W fun e w' => ∃ v, e = .returned v ∧ w'.ownsRow W.heap.size 3 1 v (keep done N ms).length (intsV (keep done N ms)) ∧ Fr (fun k => k = xb ∨ k = sb) W w' := by
  have c1 : W.cell? ⟨xb, 1, none⟩ = some (.string ⟨tx.toArray⟩) := by rw [cell_of_row W xb 1 _ _ _ hF.blk]; rfl
  have htell := tell_ok xb sb t tx done N ms W hF hT (by omega) ht hms hlen hbs hd
  obtain ⟨k1, k2⟩ := hS.ne_xb hF
  have HTL := Lib.hid htell; have HF := Lib.hid hF; have HS := Lib.hid hS; have HT := Lib.hid hT; have K1 := Lib.hid k1; have K2 := Lib.hid k2; have HN := Lib.hid hN
  clear htell hF hS hT k1 k2 hms hbs
  go_enter Tryz.func9, Tryz.ntmps9
  go_wp2_with fail
  refine HTL.out.mono ?_
  rintro e w1 ⟨v1, rfl, hf1, hF1, hown1⟩
  have hT1 := tabs_fr hf1 HT.out (by omega) (by omega)
  have hS1 := HS.out.fr hf1 K1.out K2.out
  have d1 : w1.cell? ⟨xb, 1, none⟩ = some (.string ⟨tx.toArray⟩) := by rw [cell_of_row w1 xb 1 _ _ _ hF1.blk]; rfl
  have d2 : w1.cell? ⟨xb, 2, none⟩ = some (.pointer (some ⟨sb, 0, none⟩)) := by rw [cell_of_row w1 xb 2 _ _ _ hF1.blk]; rfl
  obtain ⟨z, hz⟩ : ∃ z : Nat, Pieces.next (keep done N ms) done = z := ⟨_, rfl⟩
  rw [hz] at hF1
  have d3 : w1.cell? ⟨xb, 3, none⟩ = some (.int .i64 z) := by rw [cell_of_row w1 xb 3 _ _ _ hF1.blk]; rfl
  have f1 := blk_frozen hF1.blk 1
  have f3 := blk_frozen hF1.blk 3
  have HF1 := Lib.hid hF1; have HS1 := Lib.hid hS1; have HT1 := Lib.hid hT1; have HFR1 := Lib.hid hf1; have HO1 := Lib.hid hown1
  clear hF1 hS1 hT1 hf1 hown1 hz c1
  dsimp only
  go_wp2_with fail
  have hf2 : Fr (fun k => k = xb) w1 ((w1.setCell ⟨xb, 1, none⟩ (.string ⟨#[]⟩)).setCell ⟨xb, 3, none⟩ (.int .i64 0)) :=
    (Fr.set (T := fun k => k = xb) w1 ⟨xb, 1, none⟩ _ (fun _ => rfl)).trans (Fr.set (T := fun k => k = xb) _ ⟨xb, 3, none⟩ _ (fun _ => rfl))
  obtain ⟨w2, hw2⟩ : ∃ w2, (w1.setCell ⟨xb, 1, none⟩ (.string ⟨#[]⟩)).setCell ⟨xb, 3, none⟩ (.int .i64 0) = w2 := ⟨_, rfl⟩
  rw [hw2] at hf2 ⊢
  clear hw2
  have hS2 := HS1.out.fr hf2 K1.out K2.out
  have hT2 := tabs_fr hf2 HT1.out (by omega) (by omega)
  refine (SClose_ok sb hv fed held base held.length w2 hS2 rfl hn hT2 hs2).mono ?_
  rintro e w3 ⟨⟨v, rfl⟩, hf3⟩
  have HFR2 := Lib.hid hf2; have HFR3 := Lib.hid hf3
  clear hf2 hf3 hS2 hT2 d1 d2 d3 f1 f3
  dsimp only
  go_wp2
  go_ret
  refine ⟨_, rfl, ?_, ?_⟩
  · have o2 := HFR2.out.own HO1.out (fun g hg c => by
      have := (own_lt HO1.out hg).1
      have := heap_lt HF.out.blk
      omega)
    exact HFR3.out.own o2 (fun g hg c => by
      have := (own_lt HO1.out hg).1
      have := heap_lt HS.out.blk
      omega)
  · have q1 : Fr (fun k => k = xb ∨ k = sb) W w1 := HFR1.out.mono (fun k _ h => .inl h)
    have q2 : Fr (fun k => k = xb ∨ k = sb) w1 w2 := HFR2.out.mono (fun k _ h => .inl h)
    have q3 : Fr (fun k => k = xb ∨ k = sb) w2 w3 := HFR3.out.mono (fun k _ h => .inr h)
    exact (q1.trans q2).trans q3
theorem num_ok (n : Int) (w : World) : Calls Tryz.prog 7 #[.int .i64 n] w fun e w' => e = .returned (.int .i64 n) ∧ w' = w := by
  go_enter Tryz.func7, Tryz.ntmps7
  go_wp2
  go_ret
  exact ⟨rfl, rfl⟩
theorem New_none (w : World) : Calls Tryz.prog 6 #[.string ⟨#[]⟩] w fun e w' => e = .returned (.tuple #[.pointer none, .int .i64 220]) ∧ w' = w := by
  go_enter Tryz.func6, Tryz.ntmps6
  go_wp2
  go_ret2
  exact ⟨rfl, rfl⟩
theorem New_ok (t : List UInt8) (w : World) (ht : t ≠ []) (hl : t.length ≤ 4096) : Calls Tryz.prog 6 #[.string ⟨t.toArray⟩] w fun e w' =>
    e = .returned (.tuple #[.pointer (some ⟨w.heap.size + 1, 0, none⟩), .int .i64 0]) ∧
    w' = (w.alloc (.cells #[.slice none 0 0, .int .i64 0] 60)).alloc (.cells #[.string ⟨t.toArray⟩, .string ⟨#[]⟩, .pointer (some ⟨w.heap.size, 0, none⟩), .int .i64 0] 46) := by
  have hte : t.isEmpty = false := by cases t with | nil => exact absurd rfl ht | cons a b => rfl
  have hd : decide ((4096 : Int) < t.length) = false := by rw [decide_eq_false_iff_not]; omega
  go_enter Tryz.func6, Tryz.ntmps6
  go_wp2_with (go_at_call 14; refine (NewScanner_ok _).mono ?_; rintro e w1 ⟨rfl, rfl⟩)
  go_ret2
  exact ⟨rfl, rfl⟩
end
end Go.Proofs.YtfmnninijakknaaGreatDoor.searchPieces
