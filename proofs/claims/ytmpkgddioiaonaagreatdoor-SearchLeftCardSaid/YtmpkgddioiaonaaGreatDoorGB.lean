/- SearchLeft, walked: search.Every, All, Is. -/
import Derived.Test.YtmpkgddioiaonaaGreatDoorGA
import Derived.Deep.AppendLies
namespace Go.Proofs.YtmpkgddioiaonaaGreatDoor.searchLeft
section
open Go.Shelf Go.RowKit Go.Lib Go.Proofs.YtmpkgddioiaonaaGreatDoor.Am
theorem placesV_get : ∀ (l : List Left.Pl) (k : Nat) (p : Left.Pl), l[k]? = some p → (placesV l)[k * 3]? = some (.int .i64 p.1) ∧ (placesV l)[k * 3 + 1]? = some (.bool p.2.1) ∧ (placesV l)[k * 3 + 2]? = some (.string ⟨p.2.2.toArray⟩)
 | [], k, p, h => by simp at h
 | q :: l, 0, p, h => by
   simp at h
   subst h
   exact ⟨rfl, rfl, rfl⟩
 | q :: l, k + 1, p, h => by
   have ih := placesV_get l k p (by simpa using h)
   have e : ∀ j, (placesV (q :: l))[(k + 1) * 3 + j]? = (placesV l)[k * 3 + j]? := fun j => by
    show (placeV q ++ placesV l)[(k + 1) * 3 + j]? = _
    rw [List.getElem?_append_right (by simp [placeV]; omega)]
    congr 1
    simp [placeV]; omega
   exact ⟨by have := e 0; rw [Nat.add_zero, Nat.add_zero] at this; rw [this]; exact ih.1, by rw [e 1]; exact ih.2.1, by rw [e 2]; exact ih.2.2⟩
theorem place_cells {w : World} {base g n cap : Nat} {l : List Left.Pl} (h : w.ownsRow base 45 3 (.slice (some ⟨g, 0, none⟩) n cap) n (placesV l)) {k : Nat} {p : Left.Pl} (hk : l[k]? = some p) :
 w.cell? ⟨g, k * 3, none⟩ = some (.int .i64 p.1) ∧ w.cell? ⟨g, k * 3 + 1, none⟩ = some (.bool p.2.1) ∧ w.cell? ⟨g, k * 3 + 2, none⟩ = some (.string ⟨p.2.2.toArray⟩) := by
 obtain ⟨h0, h1, h2⟩ := placesV_get l k p hk
 have c := fun j u hj => h.cells (g := g) rfl j u hj
 have e : ∀ j, (⟨g, 0, none⟩ : Addr).add j = ⟨g, j, none⟩ := fun j => by rw [add_none, Nat.zero_add]
 refine ⟨?_, ?_, ?_⟩
 ·have := c _ _ h0; rwa [e] at this
 ·have := c _ _ h1; rwa [e] at this
 ·have := c _ _ h2; rwa [e] at this
structure EV (W : World) (t : List UInt8) (pl : List Left.Pl) (g N cap i : Nat) (acc : List (Nat × Nat)) (vo : Value) (w : World) : Prop where
 bel : Below W.heap.size W w
 plc : w.ownsRow W.heap.size 45 3 (.slice (some ⟨g, 0, none⟩) N cap) N (placesV pl)
 out : w.ownsRow W.heap.size 29 2 vo acc.length (matchesV acc)
 len : acc.length ≤ i
 eq : acc ++ Left.every t (pl.drop i) = Left.every t pl
def EveryPost (l : List (Nat × Nat)) (W : World) (e : Ending) (w' : World) : Prop :=
 ∃ v, e = .returned v ∧ Below W.heap.size W w' ∧ w'.ownsRow W.heap.size 29 2 v l.length (matchesV l)
theorem look_nil {p : Left.Pl} {r : List Left.Pl} : Left.look [] (p :: r) = if p.2.1 = true then some p.1 else none := by unfold Left.look; rw [if_pos rfl]
theorem look_no {rest : List UInt8} {p : Left.Pl} {r : List Left.Pl} (hr : rest ≠ []) (h : Left.cut rest p.2.2 = none) : Left.look rest (p :: r) = none := by
 unfold Left.look
 rw [if_neg hr, h]
theorem look_stop {rest nx : List UInt8} {p : Left.Pl} {r : List Left.Pl} (hr : rest ≠ []) (h : Left.cut rest p.2.2 = some nx) (hs : p.2.2 = []) : Left.look rest (p :: r) = none := by
 unfold Left.look
 rw [if_neg hr, h]
 exact if_pos hs
theorem look_go {rest nx : List UInt8} {p : Left.Pl} {r : List Left.Pl} (hr : rest ≠ []) (h : Left.cut rest p.2.2 = some nx) (hs : p.2.2 ≠ []) : Left.look rest (p :: r) = Left.look nx r := by
 rw [Left.look, if_neg hr, h]
 show (if p.2.2 = [] then none else Left.look nx r) = Left.look nx r
 rw [if_neg hs]
theorem drop_at {α : Type} {l : List α} {k : Nat} {p : α} (h : l[k]? = some p) : l.drop k = p :: l.drop (k + 1) := by
 obtain ⟨hk, rfl⟩ := List.getElem?_eq_some_iff.1 h
 exact List.drop_eq_getElem_cons hk
theorem EV.below {W : World} {t : List UInt8} {pl : List Left.Pl} {g N cap i : Nat} {acc : List (Nat × Nat)} {vo : Value} {w w1 : World} (h : EV W t pl g N cap i acc vo w) (hb : Below w.heap.size w w1) : EV W t pl g N cap i acc vo w1 :=
 ⟨h.bel.trans (hb.mono h.bel.size), (Fr.of_below (T := fun _ => False) hb (Nat.le_refl _)).own h.plc (fun _ _ => id), (Fr.of_below (T := fun _ => False) hb (Nat.le_refl _)).own h.out (fun _ _ => id), h.len, h.eq⟩
theorem EV.skip {W : World} {t : List UInt8} {pl : List Left.Pl} {g N cap k : Nat} {acc : List (Nat × Nat)} {vo : Value} {w : World} {p : Left.Pl} (h : EV W t pl g N cap k acc vo w) (hp : pl[k]? = some p) (hl : p.2.1 = true → Left.look t (pl.drop k) = none) :
 EV W t pl g N cap (k + 1) acc vo w := by
 refine ⟨h.bel, h.plc, h.out, Nat.le_succ_of_le h.len, ?_⟩
 rw [← h.eq, drop_at hp]
 rw [drop_at hp] at hl
 show _ = acc ++ (if p.2.1 = true then (match Left.look t (p :: pl.drop (k + 1)) with | some b => (p.1, b) :: Left.every t (pl.drop (k + 1)) | none => Left.every t (pl.drop (k + 1))) else Left.every t (pl.drop (k + 1)))
 split
 ·rename_i c
  rw [hl c]
 ·rfl
theorem EV.hit {W : World} {t : List UInt8} {pl : List Left.Pl} {g N cap k b : Nat} {acc : List (Nat × Nat)} {vo v' : Value} {w w3 : World} {o : Obj} {a : Nat} {sh : List UInt8} (h : EV W t pl g N cap k acc vo w) (hp : pl[k]? = some (a, true, sh)) (hl : Left.look t (pl.drop k) = some b)
 (hg : (w.drew.alloc o).grownBy w3 vo.ownBlock) (hown : w3.ownsRow W.heap.size 29 2 v' (acc.length + 1) (matchesV acc ++ [.int .i64 a, .int .i64 b])) : EV W t pl g N cap (k + 1) (acc ++ [(a, b)]) v' w3 := by
 have hf := add_fr hg
 refine ⟨⟨h.bel.os ▸ hf.os, h.bel.tape ▸ hf.tape, h.bel.output ▸ hf.output, Nat.le_trans h.bel.size hf.size, fun j hj => ?_⟩, hf.own h.plc ?_, ?_, ?_, ?_⟩
 ·rw [hf.block j (Nat.lt_of_lt_of_le hj h.bel.size) (fun c => by have := (own_lt h.out c).1; omega)]
  exact h.bel.block j hj
 ·intro j hj c
  obtain ⟨_, _, cur, hcur⟩ := own_lt h.plc hj
  obtain ⟨_, _, cur2, hcur2⟩ := own_lt h.out c
  rw [hcur] at hcur2
  cases hcur2
 ·rw [matchesV_app, List.length_append]
  exact hown
 ·rw [List.length_append]
  exact Nat.succ_le_succ h.len
 ·rw [← h.eq, drop_at hp]
  rw [drop_at hp] at hl
  show _ = acc ++ (if true = true then (match Left.look t ((a, true, sh) :: pl.drop (k + 1)) with | some b => (a, b) :: Left.every t (pl.drop (k + 1)) | none => Left.every t (pl.drop (k + 1))) else Left.every t (pl.drop (k + 1)))
  rw [if_pos rfl]
  rw [hl]
  simp
theorem cell_alloc {w : World} {b o : Nat} {v : Value} (h : w.cell? ⟨b, o, none⟩ = some v) (x : Obj) : (w.alloc x).cell? ⟨b, o, none⟩ = some v := by
 rw [((Below.refl w.heap.size w).alloc (Nat.le_refl _) x).cell (p := ⟨b, o, none⟩) (cell_lt h)]
 exact h
end
section
open Go.Shelf Go.RowKit Go.Lib Go.Proofs.YtmpkgddioiaonaaGreatDoor.Am
/-- the box of the way of looking stands -/
structure EB (W : World) (fo le wo : Bool) (w : World) : Prop where
 bel : Below W.heap.size W w
 o : w.heap[W.heap.size]? = some (.cells #[.bool fo, .bool le, .bool wo] 23 (0, 0))
theorem EB.go {W w w' : World} {fo le wo : Bool} (h : EB W fo le wo w) (hb : Below w.heap.size w w') : EB W fo le wo w' := ⟨h.bel.trans (hb.mono h.bel.size), below_blk hb h.o⟩
theorem EB.start (W : World) (fo le wo : Bool) : EB W fo le wo (W.alloc (.cells #[.bool fo, .bool le, .bool wo] 23)) := ⟨(Below.refl _ W).alloc (Nat.le_refl _) _, heap_alloc_new W _⟩
set_option maxHeartbeats 4000000 in
set_option maxRecDepth 100000 in
theorem every_ok (s : ByteArray) (t want : List UInt8) (pl : List Left.Pl) (fo le wo : Bool) (W : World) (ht : t ≠ []) (hpne : pl ≠ []) (hpn : pl.length ≤ 100001) (hfo : fo = false → want = t)
 (hF : fo = true → ∀ w, Below W.heap.size W w → Calls Tryz.prog 13 #[.string ⟨t.toArray⟩] w fun e w' => e = .returned (.string ⟨want.toArray⟩) ∧ Below w.heap.size w w')
 (hP : ∀ w, Below W.heap.size W w → Calls Tryz.prog 14 #[.string s, .agg #[.bool fo, .bool le, .bool wo]] w (PlacesPost pl w)) :
 Calls Tryz.prog 6 #[.string s, .string ⟨t.toArray⟩, .agg #[.bool fo, .bool le, .bool wo]] W (EveryPost (Left.every want pl) W) := by
 have hte : t.isEmpty = false := by cases t with | nil => exact absurd rfl ht | cons a b => rfl
 have HF := Lib.hid hF; have HPC := Lib.hid hP; have HPN := Lib.hid hpne; have HPL := Lib.hid hpn; have HFO := Lib.hid hfo
 have HB0 := Lib.hid (EB.start W fo le wo)
 clear hF hP hpne hpn hfo ht
 go_enter Tryz.func6, Tryz.ntmps6
 go_wp2_with fail
 go_step3
 go_upto_if 20 with (fail)
 go_cut [7] (fun q wx => q = .string ⟨want.toArray⟩ ∧ EB W fo le wo wx)
 case first =>
  cases fo
  case false =>
   have HE := Lib.hid (HFO.out rfl)
   clear HFO
   go_wp2_with fail
   go_meet
   exact ⟨by rw [HE.out], HB0.out⟩
  case true =>
   clear HFO
   go_wp2_with fail
   refine (HF.out trivial _ HB0.out.bel).mono ?_
   rintro e w1 ⟨rfl, hb⟩
   have HB1 := Lib.hid (HB0.out.go hb)
   clear hb
   dsimp only
   go_wp2_with fail
   go_meet
   exact ⟨rfl, HB1.out⟩
 case rest =>
  obtain ⟨rfl, hb⟩ := hcut
  have HB := Lib.hid hb
  have y0 := (cell_of_row wc W.heap.size 0 _ _ _ hb.o).trans rfl
  have y1 := (cell_of_row wc W.heap.size 1 _ _ _ hb.o).trans rfl
  have y2 := (cell_of_row wc W.heap.size 2 _ _ _ hb.o).trans rfl
  clear hb HB0
  go_wp2_with fail
  refine (HPC.out _ HB.out.bel).mono ?_
  rintro e w1 ⟨v, rfl, hb1, hown1⟩
  clear y0 y1 y2
  obtain ⟨N, hN⟩ : ∃ N, pl.length = N := ⟨_, rfl⟩
  have hN0 : 0 < N := by have := List.length_pos_iff.2 HPN.out; omega
  have hNB : N ≤ 100001 := by have := HPL.out; omega
  rw [hN] at hown1
  obtain ⟨g, cap, rfl, hg1, _⟩ := hown1.form hN0
  have HB1 := Lib.hid hb1; clear hb1
  have HO1 := Lib.hid hown1; clear hown1
  have HN := Lib.hid hN; clear hN
  have HNB := Lib.hid hNB; clear hNB
  dsimp only
  go_wp2
  go_step3
  rename_i K hK
  refine hK _ _ ?_
  go_wp2
  go_loopw [28, 9] (fun i vo wr => ∃ (k : Nat) (acc : List (Nat × Nat)), k ≤ N ∧ i = .int .i64 k ∧ EV W want pl g N cap k acc vo wr) (fun i _ _ => N - (RowKit.intOf i).toNat)
  case atStart =>
   have hB := HB1.out
   have hO := HO1.out
   have h1 : Below W.heap.size W w1 := HB.out.bel.trans (hB.mono HB.out.bel.size)
   exact ⟨0, [], Nat.zero_le _, rfl, h1, own_base hO (fun j hj => Nat.le_trans HB.out.bel.size (own_lt hO hj).1), ⟨rfl, .inl ⟨rfl, rfl⟩⟩, Nat.le_refl _, rfl⟩
  case round =>
   obtain ⟨k, acc, hk, rfl, hE⟩ := hrel
   have HE := Lib.hid hE; clear hE
   by_cases hlt : k < N
   ·obtain ⟨⟨a, may, sh⟩, hp⟩ : ∃ p, pl[k]? = some p := ⟨pl[k]'(by rw [HN.out]; exact hlt), List.getElem?_eq_getElem _⟩
    obtain ⟨c0, c1, c2⟩ := place_cells HE.out.plc hp
    have hk0 : (0 : Int) ≤ k := by omega
    have hk1 : (k : Int) < N := by omega
    cases may
    case false =>
     have HP2 := Lib.hid hp; clear hp
     have hwk : wrap64 ((k : Int) + 1) = ((k + 1 : Nat) : Int) := by have := HNB.out; unfold wrap64; omega
     have HWK := Lib.hid hwk; clear hwk
     go_wp2
     exact ⟨⟨k + 1, acc, hlt, by first | rw [HWK.out] | rfl, (HE.out.below ((Below.refl _ _).alloc (Nat.le_refl _) _)).skip HP2.out (fun h => absurd h Bool.false_ne_true)⟩, by first | (rw [HWK.out]; simp [RowKit.intOf]; omega) | (simp [RowKit.intOf]; omega)⟩
    case true =>
     go_wp2
     obtain ⟨w2, hw2⟩ : ∃ w2, wr.alloc (.cells #[.int .i64 a, .bool true, .string ⟨sh.toArray⟩] 45) = w2 := ⟨_, rfl⟩
     obtain ⟨pb, hpb⟩ : ∃ pb, wr.heap.size = pb := ⟨_, rfl⟩
     have hE2 : EV W want pl g N cap k acc u9 w2 := by rw [← hw2]; exact HE.out.below ((Below.refl _ _).alloc (Nat.le_refl _) _)
     have d0 : w2.cell? ⟨pb, 0, none⟩ = some (.int .i64 a) := by rw [← hw2, ← hpb, cell_of_row _ _ 0 _ _ _ (heap_alloc_new wr _)]; rfl
     rw [hw2, hpb]
     have HP2 := Lib.hid hp
     clear c0 c1 c2 hw2 hpb hp
     have HE2 := Lib.hid hE2; clear hE2
     have hNb := HNB.out
     have hwk : wrap64 ((k : Int) + 1) = ((k + 1 : Nat) : Int) := by unfold wrap64; omega
     have HWK := Lib.hid hwk; clear hwk
     go_hide hQ
     go_loop [12, 13, 9] (fun r jj v9 => v9 = u9 ∧ ∃ (j : Nat) (rest : List UInt8), k ≤ j ∧ j ≤ N ∧ r = .string ⟨rest.toArray⟩ ∧ jj = .int .i64 j ∧ Left.look rest (pl.drop j) = Left.look want (pl.drop k)) (fun _ jj _ => N - (RowKit.intOf jj).toNat)
     case atStart => exact ⟨rfl, k, want, Nat.le_refl _, hk, rfl, rfl, rfl⟩
     case round =>
      obtain ⟨rfl, j, rest, hkj, hj, rfl, rfl, hlook⟩ := hrel
      have HLK := Lib.hid hlook; clear hlook
      by_cases hjl : j < N
      ·obtain ⟨⟨b, mj, sj⟩, hq⟩ : ∃ p, pl[j]? = some p := ⟨pl[j]'(by rw [HN.out]; exact hjl), List.getElem?_eq_getElem _⟩
       obtain ⟨c0, c1, c2⟩ := place_cells HE2.out.plc hq
       have hdj := drop_at hq
       have hj0 : (0 : Int) ≤ j := by omega
       have hj1 : (j : Int) < N := by omega
       have HDJ := Lib.hid hdj; clear hdj
       clear hq
       by_cases hr : rest = []
       ·subst hr
        cases mj
        case false =>
         have hnone : Left.look want (pl.drop k) = none := by rw [← HLK.out, HDJ.out, look_nil]; rfl
         have HNO := Lib.hid hnone; clear hnone
         go_wp2
         subst hQ
         go_wp2
         exact ⟨⟨k + 1, acc, hlt, by first | rw [HWK.out] | rfl, HE2.out.skip HP2.out (fun _ => HNO.out)⟩, by first | (rw [HWK.out]; simp [RowKit.intOf]; omega) | (simp [RowKit.intOf]; omega)⟩
        case true =>
         have hsome : Left.look want (pl.drop k) = some b := by rw [← HLK.out, HDJ.out, look_nil]; rfl
         have HSM := Lib.hid hsome; clear hsome
         have hal : acc.length ≤ 100001 := by have := HE2.out.len; omega
         obtain ⟨i0, hi0, hz0, hz1, hz2⟩ := info_parts match_info
         have hb63 : acc.length + 1 ≤ maxLen := by simp only [maxLen]; omega
         have hbase : W.heap.size ≤ w2.heap.size := HE2.out.bel.size
         have HB63 := Lib.hid hb63; clear hb63
         have HBASE := Lib.hid hbase; clear hbase
         have hfr : (w2.drew.alloc (.cells #[.int .i64 a, .int .i64 b] 29)).ownsRow W.heap.size 29 2 _ acc.length (matchesV acc) := (Fr.alloc (fun _ => False) w2.drew _).own HE2.out.out (fun _ _ => id)
         have HFR := Lib.hid hfr; clear hfr
         have hca := cell_alloc (w := w2) d0 (.cells #[.int .i64 a, .int .i64 b] 29)
         have hcb := cell_alloc (w := w2) c0 (.cells #[.int .i64 a, .int .i64 b] 29)
         go_wp2
         subst hQ
         go_region_law ((refine step_append_lies _ (by rfl) (.tmp 51) (.tmp 60) 25 (by rfl) W.heap.size 29 i0 _ 2 16 Tryz.underlying25 hi0 hz0 hz1 hz2 rfl (by omega) _ acc.length (matchesV acc) (by rfl) HFR.out ⟨w2.heap.size, 0, none⟩ 1 1 [.int .i64 a, .int .i64 b] (by rfl) (by rfl) (World.news_of_block (heap_alloc_new w2.drew _)) (one2 _ _ rfl rfl) (by omega) HB63.out (by omega) (Nat.le_trans HBASE.out (Nat.le_of_lt (by simp))) _ rfl ?_; intro g3 cap3 w3 hown3 hgrow3 _ _))
         all_goals (
          have hE3 := HE2.out.hit HP2.out HSM.out hgrow3 hown3
          have HE3 := Lib.hid hE3
          clear hE3 hown3 hgrow3)
         all_goals go_wp2
         all_goals exact ⟨⟨k + 1, acc ++ [(a, b)], hlt, by first | rw [HWK.out] | rfl, HE3.out⟩, by first | (rw [HWK.out]; simp [RowKit.intOf]; omega) | (simp [RowKit.intOf]; omega)⟩
       ·have hre : rest.isEmpty = false := by cases rest with | nil => exact absurd rfl hr | cons a b => rfl
        have HR := Lib.hid hr; clear hr
        cases hcut : Left.cut rest sj with
        | none =>
          have hnone : Left.look want (pl.drop k) = none := by rw [← HLK.out, HDJ.out]; exact look_no HR.out hcut
          have HNO := Lib.hid hnone; clear hnone
          have HCUT := Lib.hid hcut; clear hcut
          go_wp2_with fail
          refine (Cut_no rest sj _ HCUT.out).mono ?_
          rintro e w4 ⟨rfl, rfl⟩
          dsimp only
          go_wp2
          subst hQ
          go_wp2
          exact ⟨⟨k + 1, acc, hlt, by first | rw [HWK.out] | rfl, HE2.out.skip HP2.out (fun _ => HNO.out)⟩, by first | (rw [HWK.out]; simp [RowKit.intOf]; omega) | (simp [RowKit.intOf]; omega)⟩
        | some nx =>
          have HCUT := Lib.hid hcut; clear hcut
          by_cases hsj : sj = []
          ·have hnone : Left.look want (pl.drop k) = none := by rw [← HLK.out, HDJ.out]; exact look_stop HR.out HCUT.out hsj
           have HNO := Lib.hid hnone; clear hnone
           have hsje : sj.isEmpty = true := by rw [hsj]; rfl
           clear hsj
           go_wp2_with fail
           refine (Cut_yes rest sj nx _ HCUT.out).mono ?_
           rintro e w4 ⟨rfl, rfl⟩
           dsimp only
           go_wp2
           subst hQ
           go_wp2
           exact ⟨⟨k + 1, acc, hlt, by first | rw [HWK.out] | rfl, HE2.out.skip HP2.out (fun _ => HNO.out)⟩, by first | (rw [HWK.out]; simp [RowKit.intOf]; omega) | (simp [RowKit.intOf]; omega)⟩
          ·have hgo : Left.look nx (pl.drop (j + 1)) = Left.look want (pl.drop k) := by rw [← HLK.out, HDJ.out]; exact (look_go HR.out HCUT.out hsj).symm
           have HGO := Lib.hid hgo; clear hgo
           have hsje : sj.isEmpty = false := by cases sj with | nil => exact absurd rfl hsj | cons a b => rfl
           have hwj : wrap64 ((j : Int) + 1) = ((j + 1 : Nat) : Int) := by unfold wrap64; omega
           have HWJ := Lib.hid hwj; clear hwj
           clear hsj
           go_wp2_with fail
           refine (Cut_yes rest sj nx _ HCUT.out).mono ?_
           rintro e w4 ⟨rfl, rfl⟩
           dsimp only
           go_wp2
           go_round
           case rel => exact ⟨rfl, j + 1, nx, by omega, by omega, rfl, by first | rw [HWJ.out] | rfl, HGO.out⟩
           case measure => first | (rw [HWJ.out]; simp [RowKit.intOf]; omega) | (simp [RowKit.intOf]; omega)
      ·have hnone : Left.look want (pl.drop k) = none := by
        rw [← HLK.out, List.drop_eq_nil_of_le (by rw [HN.out]; omega)]
        unfold Left.look; rfl
       have HNO := Lib.hid hnone; clear hnone
       go_wp2
       subst hQ
       go_wp2
       exact ⟨⟨k + 1, acc, hlt, by first | rw [HWK.out] | rfl, HE2.out.skip HP2.out (fun _ => HNO.out)⟩, by first | (rw [HWK.out]; simp [RowKit.intOf]; omega) | (simp [RowKit.intOf]; omega)⟩
   ·have hkn : k = N := by omega
    have hl := HE.out.eq
    rw [List.drop_eq_nil_of_le (by rw [HN.out, hkn]; exact Nat.le_refl _)] at hl
    have HL := Lib.hid hl; clear hl
    obtain ⟨A9, c9, rfl, _⟩ := own_slice HE.out.out
    obtain ⟨m, hm⟩ : ∃ m, acc.length = m := ⟨_, rfl⟩
    have HM := Lib.hid hm
    rw [hm] at HE ⊢
    clear hm hkn
    go_wp2
    rw [Exit.noGoto_ret]
    go_ret
    refine ⟨_, rfl, HE.out.bel, ?_⟩
    have h := HE.out.out
    have e : acc = Left.every want pl := by rw [← HL.out]; simp [Left.every]
    rw [← e]
    exact h
end
section
open Go.Shelf Go.RowKit Go.Lib Go.Proofs.YtmpkgddioiaonaaGreatDoor.Am
def MatsPost (l : List (Nat × Nat)) (W : World) (e : Ending) (w' : World) : Prop := ∃ A n c, e = .returned (.slice A n c) ∧ MatR w' A n l ∧ Below W.heap.size W w'
structure AL (w1 : World) (v : Value) (acc : List (Nat × Nat)) (w : World) : Prop where
 bel : Below w1.heap.size w1 w
 own : w.ownsRow w1.heap.size 29 2 v acc.length (matchesV acc)
theorem AL.below {w1 w w' : World} {v : Value} {acc : List (Nat × Nat)} (h : AL w1 v acc w) (hb : Below w.heap.size w w') : AL w1 v acc w' :=
 ⟨h.bel.trans (hb.mono h.bel.size), (Fr.of_below (T := fun _ => False) hb (Nat.le_refl _)).own h.own (fun _ _ => id)⟩
theorem AL.grow {w1 w w' : World} {v v' : Value} {acc : List (Nat × Nat)} {a b : Nat} (h : AL w1 v acc w) (ho : w'.ownsRow w1.heap.size 29 2 v' (acc.length + 1) (matchesV acc ++ [.int .i64 a, .int .i64 b])) (hg : w.grownBy w' v.ownBlock) : AL w1 v' (acc ++ [(a, b)]) w' := by
 refine ⟨h.bel.grown hg h.bel.size (fun k hk => (own_lt h.own hk).1), ?_⟩
 rw [matchesV_app, List.length_append]
 exact ho
set_option maxHeartbeats 4000000 in
set_option maxRecDepth 100000 in
theorem all_ok (s t : ByteArray) (L : List (Nat × Nat)) (fo le wo : Bool) (W : World) (hL : L.length ≤ 1000)
 (hE : ∀ w, Below W.heap.size W w → Calls Tryz.prog 6 #[.string s, .string t, .agg #[.bool fo, .bool le, .bool wo]] w (EveryPost L w)) :
 Calls Tryz.prog 5 #[.string s, .string t, .agg #[.bool fo, .bool le, .bool wo]] W (MatsPost (Left.allG 0 L) W) := by
 have HE := Lib.hid hE; clear hE
 obtain ⟨N, hN⟩ : ∃ N, L.length = N := ⟨_, rfl⟩
 rw [hN] at hL
 have HN := Lib.hid hN; clear hN
 obtain ⟨i0, hi0, hz0, hz1, hz2⟩ := info_parts match_info
 go_enter Tryz.func5, Tryz.ntmps5
 go_wp2_with (go_at_call 6; refine (HE.out _ ((Below.refl _ W).alloc (Nat.le_refl _) _)).mono ?_; rintro e w1 ⟨v, rfl, hb1, hown1⟩; rw [HN.out] at hown1; obtain ⟨A, c, rfl, _⟩ := own_slice hown1; have HB1 := Lib.hid (((Below.refl _ W).alloc (Nat.le_refl _) _).trans (hb1.mono (Nat.le_of_lt (by simp)))); have HR := Lib.hid (matR_own HN.out hown1 (by omega)); clear hb1 hown1)
 go_loopw [16, 7, 8] (fun i vo ve wr => ∃ (k : Nat) (acc : List (Nat × Nat)) (en : Nat) (Ao : Option Addr) (m co : Nat), k ≤ N ∧ i = .int .i64 k ∧ vo = .slice Ao m co ∧ m = acc.length ∧ ve = .int .i64 en ∧ AL w1 (.slice Ao m co) acc wr ∧ m ≤ k ∧ acc ++ Left.allG en (L.drop k) = Left.allG 0 L) (fun i _ _ _ => N - (RowKit.intOf i).toNat)
 case atStart => exact ⟨0, [], 0, none, 0, 0, Nat.zero_le _, rfl, rfl, rfl, rfl, ⟨Below.refl _ _, ⟨rfl, .inl ⟨rfl, rfl⟩⟩⟩, Nat.le_refl _, rfl⟩
 case round =>
  obtain ⟨k, acc, en, Ao, m, co, hk, rfl, rfl, hm, rfl, hA, hmk, hl⟩ := hrel
  have HA := Lib.hid hA; clear hA
  have HM := Lib.hid hm; clear hm
  by_cases hlt : k < N
  ·obtain ⟨g, rfl, hg, hc⟩ := HR.out.at_ (by omega)
   obtain ⟨c0, c1⟩ := hc k hlt
   have hp : L[k]? = some (L.getD k Left.m0) := by rw [List.getD_eq_getElem?_getD, List.getElem?_eq_getElem (by rw [HN.out]; exact hlt)]; rfl
   obtain ⟨⟨a, b⟩, hab⟩ : ∃ p, L.getD k Left.m0 = p := ⟨_, rfl⟩
   rw [hab] at c0 c1 hp
   rw [drop_at hp] at hl
   have hu : ∀ e (x : Nat × Nat) r, Left.allG e (x :: r) = if e ≤ x.1 then x :: Left.allG x.2 r else Left.allG e r := fun _ _ _ => rfl
   rw [hu] at hl
   dsimp only at hl
   clear hu
   have d0 := (HA.out.bel.cell (p := ⟨g, k * 2, none⟩) hg).trans c0
   have d1 := (HA.out.bel.cell (p := ⟨g, k * 2 + 1, none⟩) hg).trans c1
   clear c0 c1 hc hab hp hg
   have hwk : wrap64 ((k : Int) + 1) = ((k + 1 : Nat) : Int) := by unfold wrap64; omega
   have HWK := Lib.hid hwk; clear hwk
   have hk0 : (0 : Int) ≤ k := by omega
   have hk1 : (k : Int) < N := by omega
   have HA2 := Lib.hid ((HA.out.below ((Below.refl _ wr).alloc (Nat.le_refl _) (.cells #[.int .i64 a, .int .i64 b] 29))))
   have HL := Lib.hid hl; clear hl
   by_cases hae : en ≤ a
   ·have hai : (en : Int) ≤ a := by omega
    have hl := HL.out
    rw [if_pos hae] at hl
    have HL1 := Lib.hid (show (acc ++ [(a, b)]) ++ Left.allG b (L.drop (k + 1)) = Left.allG 0 L by rw [List.append_assoc]; exact hl)
    clear hl HL hae
    have HB63 := Lib.hid (show m + 1 ≤ maxLen by simp only [maxLen]; omega)
    have HB16 := Lib.hid (show (m + 1) * 16 ≤ 140737488355328 by omega)
    have HA3 := Lib.hid (HA2.out.below ((Below.refl _ _).alloc (Nat.le_refl _) (.cells #[.int .i64 a, .int .i64 b] 29)))
    have hof : ∀ v' w', w'.ownsRow w1.heap.size 29 2 v' (m + 1) (matchesV acc ++ [.int .i64 a, .int .i64 b]) → ((wr.alloc (.cells #[.int .i64 a, .int .i64 b] 29)).alloc (.cells #[.int .i64 a, .int .i64 b] 29)).grownBy w' (Value.slice Ao m co).ownBlock → AL w1 v' (acc ++ [(a, b)]) w' := fun v' w' h1 h2 => HA3.out.grow (HM.out ▸ h1) h2
    have HOF := Lib.hid hof
    have HOW : Hid (((wr.alloc (.cells #[.int .i64 a, .int .i64 b] 29)).alloc (.cells #[.int .i64 a, .int .i64 b] 29)).ownsRow w1.heap.size 29 2 (.slice Ao m co) m (matchesV acc)) := Lib.hid (HM.out.symm ▸ HA3.out.own)
    have HBS := Lib.hid HA3.out.bel.size
    have HBX := Lib.hid (fun (v' : Nat) (w' : World) (h : ((wr.alloc (.cells #[.int .i64 a, .int .i64 b] 29)).alloc (.cells #[.int .i64 a, .int .i64 b] 29)).grownBy w' (Value.slice Ao m co).ownBlock) => show w'.heap[wr.heap.size]? = some (.cells #[.int .i64 a, .int .i64 b] 29 (0, 0)) from by
     rw [h.block _ (by rw [World.size_alloc, World.size_alloc]; omega) (fun c => by have := (own_lt HA.out.own c.symm).2.1; omega)]
     exact (Below.heap_alloc _ _ _ (by simp)).trans (heap_alloc_new wr _))
    clear hof
    go_wp2_with (at_builtin; (refine wpList_append_lies _ rfl (.tmp 24) (.tmp 26) 25 rfl w1.heap.size 29 i0 _ 2 16 Tryz.underlying25 hi0 hz0 hz1 hz2 rfl (by omega) _ m (matchesV acc) rfl HOW.out ⟨wr.heap.size + 1, 0, none⟩ 1 1 [.int .i64 a, .int .i64 b] rfl rfl (World.news_of_block (by rw [← World.size_alloc wr]; exact heap_alloc_new _ _)) (one2 _ _ rfl rfl) (by omega) HB63.out HB16.out HBS.out _ rfl ?_); intro g3 cap3 w3 hown3 hgrow3 _ _; have HA4 := Lib.hid (HOF.out _ _ hown3 hgrow3); have hbx : w3.heap[wr.heap.size]? = some (.cells #[.int .i64 a, .int .i64 b] 29 (0, 0)) := HBX.out 0 _ hgrow3; have x1 := (cell_of_row w3 wr.heap.size 1 _ _ _ hbx).trans rfl; clear hbx hown3 hgrow3)
    exact ⟨⟨k + 1, acc ++ [(a, b)], b, _, _, _, hlt, by first | rw [HWK.out] | rfl, rfl, by rw [List.length_append, HM.out]; rfl, rfl, HA4.out, Nat.succ_le_succ hmk, HL1.out⟩, by first | (rw [HWK.out]; simp [RowKit.intOf]; omega) | (simp [RowKit.intOf]; omega)⟩
   ·have hai : ¬ (en : Int) ≤ a := by omega
    have hl := HL.out
    rw [if_neg hae] at hl
    have HL1 := Lib.hid hl
    clear hl HL hae
    go_wp2
    exact ⟨⟨k + 1, acc, en, Ao, m, co, hlt, by first | rw [HWK.out] | rfl, rfl, HM.out, rfl, HA2.out, Nat.le_succ_of_le hmk, HL1.out⟩, by first | (rw [HWK.out]; simp [RowKit.intOf]; omega) | (simp [RowKit.intOf]; omega)⟩
  ·have hkn : k = N := by omega
   rw [List.drop_eq_nil_of_le (by rw [HN.out, hkn]; exact Nat.le_refl _)] at hl
   have HL := Lib.hid (show acc = Left.allG 0 L by rw [← hl]; simp [Left.allG])
   have HMS := Lib.hid (show m ≤ 100000 by omega)
   clear hl hkn hmk
   go_wp2
   go_ret
   exact ⟨Ao, m, co, rfl, by rw [← HL.out]; exact matR_own HM.out.symm (show wr.ownsRow w1.heap.size _ 2 (.slice Ao m co) m (matchesV acc) from HM.out.symm ▸ HA.out.own) HMS.out, HB1.out.trans (HA.out.bel.mono HB1.out.size)⟩
end
section
open Go.Shelf Go.RowKit Go.Lib Go.Proofs.YtmpkgddioiaonaaGreatDoor.Am
def IdxMPost (l : List (Nat × Nat)) (a b : Nat) (W : World) (e : Ending) (w' : World) : Prop := (∃ i, e = .returned (.int .i64 i) ∧ decide (0 ≤ i) = decide ((a, b) ∈ l)) ∧ Below W.heap.size W w'
structure IX (W : World) (a b : Nat) (w : World) : Prop where
 bel : Below W.heap.size W w
 box : w.heap[W.heap.size]? = some (.cells #[.int .i64 a, .int .i64 b] 29 (0, 0))
theorem IX.drewN {W w : World} {a b : Nat} (h : IX W a b w) (n : Nat) : IX W a b (w.drewN n) := ⟨⟨h.bel.os, h.bel.tape, h.bel.output, h.bel.size, h.bel.block⟩, h.box⟩
set_option maxHeartbeats 2000000 in
set_option maxRecDepth 100000 in
theorem indexM_ok (l : List (Nat × Nat)) (a b : Nat) (A : Option Addr) (n c : Nat) (W : World) (hR : MatR W A n l) :
 Calls Tryz.prog 31 #[.slice A n c, .agg #[.int .i64 a, .int .i64 b]] W (IdxMPost l a b W) := by
 have hsm := hR.small
 have HR := Lib.hid hR; clear hR
 go_enter Tryz.func31, Tryz.ntmps31
 go_wp2
 go_loopw [8] (fun i wr => ∃ k : Nat, k ≤ n ∧ i = .int .i64 k ∧ (∀ j, j < k → l.getD j Left.m0 ≠ (a, b)) ∧ IX W a b wr) (fun i _ => n - (RowKit.intOf i).toNat)
 case atStart => exact ⟨0, Nat.zero_le _, rfl, fun j hj => by omega, (Below.refl _ W).alloc (Nat.le_refl _) _, heap_alloc_new W _⟩
 case round =>
  obtain ⟨k, hk, rfl, hlo, hI⟩ := hrel
  have HLO := Lib.hid hlo; have HI := Lib.hid hI; clear hlo hI
  have b0 := (cell_of_row wr W.heap.size 0 _ _ _ HI.out.box).trans rfl
  have b1 := (cell_of_row wr W.heap.size 1 _ _ _ HI.out.box).trans rfl
  by_cases hlt : k < n
  ·obtain ⟨g, rfl, hg, hc⟩ := HR.out.at_ (by omega)
   obtain ⟨c0, c1⟩ := hc k hlt
   obtain ⟨⟨x, y⟩, hxy⟩ : ∃ p, l.getD k Left.m0 = p := ⟨_, rfl⟩
   rw [hxy] at c0 c1
   have d0 := (HI.out.bel.cell (p := ⟨g, k * 2, none⟩) hg).trans c0
   have d1 := (HI.out.bel.cell (p := ⟨g, k * 2 + 1, none⟩) hg).trans c1
   clear c0 c1 hc hg
   have HXY := Lib.hid hxy; clear hxy
   have hk0 : (0 : Int) ≤ k := by omega
   have hk1 : (k : Int) < n := by omega
   have HID := Lib.hid HI.out.drewN
   have hnext : (x, y) ≠ (a, b) → ∀ j, j < k + 1 → l.getD j Left.m0 ≠ (a, b) := fun h j hj => by
    rcases Nat.lt_or_ge j k with c | c
    ·exact HLO.out j c
    ·obtain rfl : j = k := by omega
     rw [HXY.out]; exact h
   have HNX := Lib.hid hnext; clear hnext
   have hwk : wrap64 ((k : Int) + 1) = ((k + 1 : Nat) : Int) := by unfold wrap64; omega
   have HWK := Lib.hid hwk; clear hwk
   by_cases hx : a = x
   ·subst hx
    by_cases hy : b = y
    ·subst hy
     go_wp2
     go_quiet (fail)
     go_wp2
     go_ret
     refine ⟨⟨_, rfl, ?_⟩, (HID.out _).bel⟩
     have hm : (a, b) ∈ l := by
      rw [← HXY.out, List.getD_eq_getElem?_getD, List.getElem?_eq_getElem (by rw [HR.out.len]; exact hlt)]
      exact List.getElem_mem _
     rw [decide_eq_true hm]
     exact decide_eq_true (Int.natCast_nonneg k)
    ·have hyi : ¬ (b : Int) = y := by omega
     have hyb : ((b : Int) == (y : Int)) = false := beq_eq_false_iff_ne.2 hyi
     have HNE := Lib.hid (show (a, y) ≠ (a, b) from fun h => hy (by injection h with _ h; exact h.symm))
     go_wp2
     go_quiet (fail)
     go_wp2
     exact ⟨⟨k + 1, hlt, by first | rw [HWK.out] | rfl, HNX.out HNE.out, HID.out _⟩, by first | (rw [HWK.out]; simp [RowKit.intOf]; omega) | (simp [RowKit.intOf]; omega)⟩
   ·have hxi : ¬ (a : Int) = x := by omega
    have hxb : ((a : Int) == (x : Int)) = false := beq_eq_false_iff_ne.2 hxi
    have HNE := Lib.hid (show (x, y) ≠ (a, b) from fun h => hx (by injection h with h _; exact h.symm))
    go_wp2
    go_quiet (fail)
    go_wp2
    exact ⟨⟨k + 1, hlt, by first | rw [HWK.out] | rfl, HNX.out HNE.out, HID.out _⟩, by first | (rw [HWK.out]; simp [RowKit.intOf]; omega) | (simp [RowKit.intOf]; omega)⟩
  ·obtain rfl : k = n := by omega
   have hm : ¬ (a, b) ∈ l := fun h => by
    obtain ⟨j, hj, he⟩ := List.mem_iff_getElem.1 h
    exact HLO.out j (by rw [← HR.out.len]; exact hj) (by rw [List.getD_eq_getElem?_getD, List.getElem?_eq_getElem hj]; exact he)
   have HM := Lib.hid hm; clear hm
   go_wp2
   go_ret
   exact ⟨⟨_, rfl, by rw [decide_eq_false HM.out]; rfl⟩, HI.out.bel⟩
set_option maxRecDepth 100000 in
theorem containsM_ok (l : List (Nat × Nat)) (a b : Nat) (A : Option Addr) (n c : Nat) (W : World) (hR : MatR W A n l) :
 Calls Tryz.prog 16 #[.slice A n c, .agg #[.int .i64 a, .int .i64 b]] W fun e w' => e = .returned (.bool (decide ((a, b) ∈ l))) ∧ Below W.heap.size W w' := by
 have hb0 : Below W.heap.size W (W.alloc (.cells #[.int .i64 a, .int .i64 b] 29)) := (Below.refl _ W).alloc (Nat.le_refl _) _
 have H := Lib.hid (indexM_ok l a b A n c _ (hR.below hb0))
 have HB0 := Lib.hid hb0
 obtain ⟨q, hq⟩ : ∃ q, decide ((a, b) ∈ l) = q := ⟨_, rfl⟩
 unfold IdxMPost at H
 rw [hq] at H
 rw [hq]
 clear hq hb0 hR
 go_enter Tryz.func16, Tryz.ntmps16
 go_wp2_with (go_at_call 31; refine H.out.mono ?_; rintro e w1 ⟨⟨i, rfl, hi⟩, hb⟩; have HB := Lib.hid hb; have HII := Lib.hid hi; clear hb hi)
 go_ret
 refine ⟨?_, HB0.out.trans (HB.out.mono (by simp))⟩
 rw [← HII.out]
 rfl
/-- search.Is -/
theorem is_ok (s t : ByteArray) (L : List (Nat × Nat)) (fo le wo : Bool) (a b : Nat) (W : World) (hL : L.length ≤ 1000)
 (hE : ∀ w, Below W.heap.size W w → Calls Tryz.prog 6 #[.string s, .string t, .agg #[.bool fo, .bool le, .bool wo]] w (EveryPost L w)) :
 Calls Tryz.prog 7 #[.string s, .string t, .agg #[.bool fo, .bool le, .bool wo], .int .i64 a, .int .i64 b] W fun e w' => e = .returned (.bool (decide ((a, b) ∈ L))) ∧ Below W.heap.size W w' := by
 have HE := Lib.hid hE; clear hE
 have HL := Lib.hid hL; clear hL
 go_enter Tryz.func7, Tryz.ntmps7
 go_wp2_with (first | (go_at_call 6; refine (HE.out _ ((Below.refl _ W).alloc (Nat.le_refl _) _)).mono ?_; rintro e w1 ⟨v, rfl, hb1, hown1⟩; obtain ⟨A, c, rfl, _⟩ := own_slice hown1; have HB1 := Lib.hid (((Below.refl _ W).alloc (Nat.le_refl _) _).trans (hb1.mono (Nat.le_of_lt (by simp)))); have HR := Lib.hid (matR_own rfl hown1 (Nat.le_trans HL.out (by decide))); clear hb1 hown1) | (go_at_call 16; refine (containsM_ok L a b _ _ _ _ HR.out).mono ?_; rintro e w2 ⟨rfl, hb⟩; have HB2 := Lib.hid (HB1.out.trans (hb.mono HB1.out.size)); clear hb))
 go_ret
 exact ⟨rfl, HB2.out⟩
end
end Go.Proofs.YtmpkgddioiaonaaGreatDoor.searchLeft
