/- FoldWrites, walked: the document's Rune, Width, Encode, Text, Decode, Marks. -/
import Derived.Test.YtnfghboholehdaaGreatDoorFB
import Derived.Test.YtnfghboholehdaaGreatDoorFG
import Derived.IntWalk
import Derived.Test.YtnfghboholehdaaGreatDoorFC
namespace Go.Proofs.YtnfghboholehdaaGreatDoor.foldWrites
section
open Go.Shelf Go.RowKit Go.Lib Go.Proofs.YtnfghboholehdaaGreatDoor.Am
open Folds (dec dec_pos dec_le)
open Pieces (bt bt_lt bt_app)
theorem tRune_ok (r : Int) (w : World) : Calls Tryz.prog 79 #[.int .i32 r] w fun e w' => e = .returned (.bool (isR r)) ∧ w' = w := by
 unfold isR
 by_cases h1 : 0 ≤ r
 ·by_cases h2 : r ≤ 1114111
  ·by_cases h3 : r < 55296
   ·go_enter Tryz.func79, Tryz.ntmps79
    go_wp2
    go_ret
    exact ⟨by simp; try omega, rfl⟩
   ·by_cases h4 : 57343 < r
    ·go_enter Tryz.func79, Tryz.ntmps79
     go_wp2
     go_ret
     exact ⟨by simp; try omega, rfl⟩
    ·go_enter Tryz.func79, Tryz.ntmps79
     go_wp2
     go_ret
     exact ⟨by simp; try omega, rfl⟩
  ·go_enter Tryz.func79, Tryz.ntmps79
   go_wp2
   go_ret
   exact ⟨by simp; try omega, rfl⟩
 ·go_enter Tryz.func79, Tryz.ntmps79
  go_wp2
  go_ret
  exact ⟨by simp; try omega, rfl⟩
def widF (r : Int) : Nat := if isR r = true then (if r < 128 then 1 else if r < 2048 then 2 else if r < 65536 then 3 else 4) else 0
theorem tWidth_ok (r : Int) (w : World) : Calls Tryz.prog 80 #[.int .i32 r] w fun e w' => e = .returned (.int .i64 (widF r)) ∧ w' = w := by
 unfold widF
 cases h : isR r with
 | false =>
   go_enter Tryz.func80, Tryz.ntmps80
   go_wp2_with (go_at_call 79; refine (tRune_ok r _).mono ?_; rintro e w1 ⟨rfl, rfl⟩; rw [h])
   go_ret
   exact ⟨rfl, rfl⟩
 | true =>
   rw [if_pos rfl]
   by_cases h1 : r < 128
   ·rw [if_pos h1]
    go_enter Tryz.func80, Tryz.ntmps80
    go_wp2_with (go_at_call 79; refine (tRune_ok r _).mono ?_; rintro e w1 ⟨rfl, rfl⟩; rw [h])
    go_ret
    exact ⟨rfl, rfl⟩
   ·rw [if_neg h1]
    by_cases h2 : r < 2048
    ·rw [if_pos h2]
     go_enter Tryz.func80, Tryz.ntmps80
     go_wp2_with (go_at_call 79; refine (tRune_ok r _).mono ?_; rintro e w1 ⟨rfl, rfl⟩; rw [h])
     go_ret
     exact ⟨rfl, rfl⟩
    ·rw [if_neg h2]
     by_cases h3 : r < 65536
     ·rw [if_pos h3]
      go_enter Tryz.func80, Tryz.ntmps80
      go_wp2_with (go_at_call 79; refine (tRune_ok r _).mono ?_; rintro e w1 ⟨rfl, rfl⟩; rw [h])
      go_ret
      exact ⟨rfl, rfl⟩
     ·rw [if_neg h3]
      go_enter Tryz.func80, Tryz.ntmps80
      go_wp2_with (go_at_call 79; refine (tRune_ok r _).mono ?_; rintro e w1 ⟨rfl, rfl⟩; rw [h])
      go_ret
      exact ⟨rfl, rfl⟩
theorem six0_ok (r : Int) (_h0 : 0 ≤ r) (_h1 : r ≤ 1114111) (w : World) : Calls Tryz.prog 81 #[.int .i32 r, .int .i64 0] w fun e w' => e = .returned (.int .u8 (128 + r % 64)) ∧ w' = w := by
 go_enter Tryz.func81, Tryz.ntmps81
 go_wp2
 go_ret
 exact ⟨by first | rfl | (congr 1; omega), rfl⟩
theorem six6_ok (r : Int) (_h0 : 0 ≤ r) (_h1 : r ≤ 1114111) (w : World) : Calls Tryz.prog 81 #[.int .i32 r, .int .i64 6] w fun e w' => e = .returned (.int .u8 (128 + r / 64 % 64)) ∧ w' = w := by
 go_enter Tryz.func81, Tryz.ntmps81
 go_wp2
 go_ret
 exact ⟨by first | rfl | (congr 1; omega), rfl⟩
theorem six12_ok (r : Int) (_h0 : 0 ≤ r) (_h1 : r ≤ 1114111) (w : World) : Calls Tryz.prog 81 #[.int .i32 r, .int .i64 12] w fun e w' => e = .returned (.int .u8 (128 + r / 4096 % 64)) ∧ w' = w := by
 go_enter Tryz.func81, Tryz.ntmps81
 go_wp2
 go_ret
 exact ⟨by first | rfl | (congr 1; omega), rfl⟩
/-- how many bytes a sequence has that begins so; the bits of the rune -/
def leadF (c : Int) : Int × Int := if c < 128 then (1, c) else if 192 ≤ c ∧ c < 224 then (2, c % 32) else if 224 ≤ c ∧ c < 240 then (3, c % 16) else if 240 ≤ c ∧ c < 248 then (4, c % 8) else (0, 0)
def LeadPost (c : Int) (w : World) (e : Ending) (w' : World) : Prop := e = .returned (.tuple #[.int .i64 (leadF c).1, .int .i32 (leadF c).2]) ∧ w' = w
theorem lead_ok (c : Int) (h0 : 0 ≤ c) (h1 : c < 256) (w : World) : Calls Tryz.prog 112 #[.int .u8 c] w (LeadPost c w) := by
 unfold LeadPost leadF
 by_cases a1 : c < 128
 ·rw [if_pos a1]
  go_enter Tryz.func112, Tryz.ntmps112
  go_wp2
  go_ret2
  exact ⟨rfl, rfl⟩
 ·rw [if_neg a1]
  by_cases a2 : c < 192
  ·rw [if_neg (by omega), if_neg (by omega), if_neg (by omega)]
   go_enter Tryz.func112, Tryz.ntmps112
   go_wp2
   go_ret2
   exact ⟨rfl, rfl⟩
  ·by_cases a3 : c < 224
   ·rw [if_pos (by omega)]
    go_enter Tryz.func112, Tryz.ntmps112
    go_wp2
    go_ret2
    exact ⟨rfl, rfl⟩
   ·rw [if_neg (by omega)]
    by_cases a4 : c < 240
    ·rw [if_pos (by omega)]
     go_enter Tryz.func112, Tryz.ntmps112
     go_wp2
     go_ret2
     exact ⟨rfl, rfl⟩
    ·rw [if_neg (by omega)]
     by_cases a5 : c < 248
     ·rw [if_pos (by omega)]
      go_enter Tryz.func112, Tryz.ntmps112
      go_wp2
      go_ret2
      exact ⟨rfl, rfl⟩
     ·rw [if_neg (by omega)]
      go_enter Tryz.func112, Tryz.ntmps112
      go_wp2
      go_ret2
      exact ⟨rfl, rfl⟩
end
section
open Go.Shelf Go.RowKit Go.Lib Go.Proofs.YtnfghboholehdaaGreatDoor.Am
open Pieces (bt bt_lt bt_app)
def sixI (r u : Int) : Int := if u = 0 then r % 64 else if u = 6 then r / 64 % 64 else r / 4096 % 64
theorem six_ok (r u : Int) (hu : u = 0 ∨ u = 6 ∨ u = 12) (h0 : 0 ≤ r) (h1 : r ≤ 1114111) (w : World) : Calls Tryz.prog 81 #[.int .i32 r, .int .i64 u] w fun e w' => e = .returned (.int .u8 (128 + sixI r u)) ∧ w' = w := by
 rcases hu with rfl | rfl | rfl
 ·exact six0_ok r h0 h1 w
 ·exact six6_ok r h0 h1 w
 ·exact six12_ok r h0 h1 w
theorem br_lit (w : World) (ty : TypeId) (xs : List Int) (l : List UInt8) (hl : l.length = xs.length) (hx : ∀ j, j < xs.length → xs.getD j 0 = (bt l j : Int)) :
 BR (w.alloc (.cells (xs.map (Value.int .u8)).toArray ty)) (w.heap.size + 1) (some ⟨w.heap.size, 0, none⟩) xs.length l := by
 refine ⟨hl, fun _ => ⟨w.heap.size, 0, rfl, Nat.lt_succ_self _, fun j hj => ?_⟩⟩
 rw [Nat.zero_add, cell_of_row _ _ _ _ _ _ (heap_alloc_new w _), ← hx j hj]
 simp [hj]
def EncPost (r : Int) (w : World) (e : Ending) (w' : World) : Prop := e = .returned (.string ⟨(encR r).toArray⟩) ∧ Below w.heap.size w w'
theorem enc_val (c : Nat) (h : isR (c : Int) = true) : encR (c : Int) = encN c := by rw [encR_N _ h, Int.toNat_natCast]
set_option maxRecDepth 100000 in
theorem enc1_ok (c : Nat) (h : isR (c : Int) = true) (hc : c < 128) (w : World) : Calls Tryz.prog 49 #[.int .i32 (c : Int)] w (EncPost c w) := by
 have hw : widF (c : Int) = 1 := by unfold widF; rw [if_pos h, if_pos (by omega)]
 have hcv := fun k => conv_br (br_lit w 5 [(c : Int)] (encN c) (by unfold encN; rw [if_pos hc]; rfl) (fun j hj => by
  unfold encN; rw [if_pos hc]
  match j, hj with
  | 0, _ => show (c : Int) = ((UInt8.ofNat c).toNat : Int); rw [ofNat_lt c (by omega)])) k
 rw [show [(c : Int)].map (Value.int .u8) = [.int .u8 (c : Int)] from rfl, show [(c : Int)].length = 1 from rfl] at hcv
 unfold EncPost
 rw [enc_val c h]
 have H := Lib.hid h; have HW := Lib.hid hw; clear h hw
 go_enter Tryz.func49, Tryz.ntmps49
 go_wp2_with (first
  | (go_at_call 79; refine (tRune_ok _ _).mono ?_; rintro e w1 ⟨rfl, rfl⟩; rw [H.out])
  | (go_at_call 80; refine (tWidth_ok _ _).mono ?_; rintro e w1 ⟨rfl, rfl⟩; rw [HW.out]))
 go_ret
 exact ⟨rfl, (Below.refl _ _).alloc (Nat.le_refl _) _⟩
set_option maxRecDepth 100000 in
theorem enc2_ok (c : Nat) (h : isR (c : Int) = true) (hc : ¬ c < 128) (hd : c < 2048) (w : World) : Calls Tryz.prog 49 #[.int .i32 (c : Int)] w (EncPost c w) := by
 have hw : widF (c : Int) = 2 := by unfold widF; rw [if_pos h, if_neg (by omega), if_pos (by omega)]
 have hcv := fun k => conv_br (br_lit w 5 [192 + (c : Int) / 64, 128 + (c : Int) % 64] (encN c) (by unfold encN; rw [if_neg hc, if_pos hd]; rfl) (fun j hj => by
  unfold encN; rw [if_neg hc, if_pos hd]
  match j, hj with
  | 0, _ => show 192 + (c : Int) / 64 = ((UInt8.ofNat (192 + c / 64)).toNat : Int); rw [ofNat_lt _ (by omega)]; omega
  | 1, _ => show 128 + (c : Int) % 64 = ((UInt8.ofNat (128 + c % 64)).toNat : Int); rw [ofNat_lt _ (by omega)]; omega)) k
 rw [show [192 + (c : Int) / 64, 128 + (c : Int) % 64].map (Value.int .u8) = [.int .u8 (192 + (c : Int) / 64), .int .u8 (128 + (c : Int) % 64)] from rfl, show [192 + (c : Int) / 64, 128 + (c : Int) % 64].length = 2 from rfl] at hcv
 unfold EncPost
 rw [enc_val c h]
 have H := Lib.hid h; have HW := Lib.hid hw; clear h hw
 go_enter Tryz.func49, Tryz.ntmps49
 go_wp2_with (first
  | (go_at_call 79; refine (tRune_ok _ _).mono ?_; rintro e w1 ⟨rfl, rfl⟩; rw [H.out])
  | (go_at_call 80; refine (tWidth_ok _ _).mono ?_; rintro e w1 ⟨rfl, rfl⟩; rw [HW.out])
  | (go_at_call 81; refine (six_ok _ _ (by decide) (by omega) (by omega) _).mono ?_; rintro e w1 ⟨rfl, rfl⟩; rw [show sixI (c : Int) 0 = (c : Int) % 64 from rfl]))
 go_ret
 exact ⟨rfl, (Below.refl _ _).alloc (Nat.le_refl _) _⟩
set_option maxRecDepth 100000 in
theorem enc3_ok (c : Nat) (h : isR (c : Int) = true) (hc : ¬ c < 2048) (hd : c < 65536) (w : World) : Calls Tryz.prog 49 #[.int .i32 (c : Int)] w (EncPost c w) := by
 have hw : widF (c : Int) = 3 := by unfold widF; rw [if_pos h, if_neg (by omega), if_neg (by omega), if_pos (by omega)]
 have hcv := fun k => conv_br (br_lit w 5 [224 + (c : Int) / 4096, 128 + (c : Int) / 64 % 64, 128 + (c : Int) % 64] (encN c) (by unfold encN; rw [if_neg (by omega), if_neg (by omega), if_pos hd]; rfl) (fun j hj => by
  unfold encN; rw [if_neg (by omega), if_neg (by omega), if_pos hd]
  match j, hj with
  | 0, _ => show 224 + (c : Int) / 4096 = ((UInt8.ofNat (224 + c / 4096)).toNat : Int); rw [ofNat_lt _ (by omega)]; omega
  | 1, _ => show 128 + (c : Int) / 64 % 64 = ((UInt8.ofNat (128 + c / 64 % 64)).toNat : Int); rw [ofNat_lt _ (by omega)]; omega
  | 2, _ => show 128 + (c : Int) % 64 = ((UInt8.ofNat (128 + c % 64)).toNat : Int); rw [ofNat_lt _ (by omega)]; omega)) k
 rw [show [224 + (c : Int) / 4096, 128 + (c : Int) / 64 % 64, 128 + (c : Int) % 64].map (Value.int .u8) = [.int .u8 (224 + (c : Int) / 4096), .int .u8 (128 + (c : Int) / 64 % 64), .int .u8 (128 + (c : Int) % 64)] from rfl, show [224 + (c : Int) / 4096, 128 + (c : Int) / 64 % 64, 128 + (c : Int) % 64].length = 3 from rfl] at hcv
 unfold EncPost
 rw [enc_val c h]
 have H := Lib.hid h; have HW := Lib.hid hw; clear h hw
 go_enter Tryz.func49, Tryz.ntmps49
 go_wp2_with (first
  | (go_at_call 79; refine (tRune_ok _ _).mono ?_; rintro e w1 ⟨rfl, rfl⟩; rw [H.out])
  | (go_at_call 80; refine (tWidth_ok _ _).mono ?_; rintro e w1 ⟨rfl, rfl⟩; rw [HW.out])
  | (go_at_call 81; refine (six_ok _ _ (by decide) (by omega) (by omega) _).mono ?_; rintro e w1 ⟨rfl, rfl⟩; first | rw [show sixI (c : Int) 0 = (c : Int) % 64 from rfl] | rw [show sixI (c : Int) 6 = (c : Int) / 64 % 64 from rfl]))
 go_ret
 exact ⟨rfl, (Below.refl _ _).alloc (Nat.le_refl _) _⟩
set_option maxRecDepth 100000 in
theorem enc4_ok (c : Nat) (h : isR (c : Int) = true) (hc : ¬ c < 65536) (w : World) : Calls Tryz.prog 49 #[.int .i32 (c : Int)] w (EncPost c w) := by
 have hR := (isR_iff _).1 h
 have hw : widF (c : Int) = 4 := by unfold widF; rw [if_pos h, if_neg (by omega), if_neg (by omega), if_neg (by omega)]
 have hcv := fun k => conv_br (br_lit w 5 [240 + (c : Int) / 262144, 128 + (c : Int) / 4096 % 64, 128 + (c : Int) / 64 % 64, 128 + (c : Int) % 64] (encN c) (by unfold encN; rw [if_neg (by omega), if_neg (by omega), if_neg hc]; rfl) (fun j hj => by
  unfold encN; rw [if_neg (by omega), if_neg (by omega), if_neg hc]
  match j, hj with
  | 0, _ => show 240 + (c : Int) / 262144 = ((UInt8.ofNat (240 + c / 262144)).toNat : Int); rw [ofNat_lt _ (by omega)]; omega
  | 1, _ => show 128 + (c : Int) / 4096 % 64 = ((UInt8.ofNat (128 + c / 4096 % 64)).toNat : Int); rw [ofNat_lt _ (by omega)]; omega
  | 2, _ => show 128 + (c : Int) / 64 % 64 = ((UInt8.ofNat (128 + c / 64 % 64)).toNat : Int); rw [ofNat_lt _ (by omega)]; omega
  | 3, _ => show 128 + (c : Int) % 64 = ((UInt8.ofNat (128 + c % 64)).toNat : Int); rw [ofNat_lt _ (by omega)]; omega)) k
 rw [show [240 + (c : Int) / 262144, 128 + (c : Int) / 4096 % 64, 128 + (c : Int) / 64 % 64, 128 + (c : Int) % 64].map (Value.int .u8) = [.int .u8 (240 + (c : Int) / 262144), .int .u8 (128 + (c : Int) / 4096 % 64), .int .u8 (128 + (c : Int) / 64 % 64), .int .u8 (128 + (c : Int) % 64)] from rfl, show [240 + (c : Int) / 262144, 128 + (c : Int) / 4096 % 64, 128 + (c : Int) / 64 % 64, 128 + (c : Int) % 64].length = 4 from rfl] at hcv
 unfold EncPost
 rw [enc_val c h]
 have H := Lib.hid h; have HW := Lib.hid hw; clear h hw
 obtain ⟨_, hc2, _⟩ := hR
 go_enter Tryz.func49, Tryz.ntmps49
 go_wp2_with (first
  | (go_at_call 79; refine (tRune_ok _ _).mono ?_; rintro e w1 ⟨rfl, rfl⟩; rw [H.out])
  | (go_at_call 80; refine (tWidth_ok _ _).mono ?_; rintro e w1 ⟨rfl, rfl⟩; rw [HW.out])
  | (go_at_call 81; refine (six_ok _ _ (by decide) (by omega) (by omega) _).mono ?_; rintro e w1 ⟨rfl, rfl⟩; first | rw [show sixI (c : Int) 0 = (c : Int) % 64 from rfl] | rw [show sixI (c : Int) 6 = (c : Int) / 64 % 64 from rfl] | rw [show sixI (c : Int) 12 = (c : Int) / 4096 % 64 from rfl]))
 go_ret
 exact ⟨rfl, (Below.refl _ _).alloc (Nat.le_refl _) _⟩
theorem tEncode_ok (r : Int) (h : isR r = true) (w : World) : Calls Tryz.prog 49 #[.int .i32 r] w (EncPost r w) := by
 obtain ⟨c, rfl⟩ := Int.eq_ofNat_of_zero_le ((isR_iff _).1 h).1
 by_cases h1 : c < 128
 ·exact enc1_ok c h h1 w
 ·by_cases h2 : c < 2048
  ·exact enc2_ok c h h1 h2 w
  ·by_cases h3 : c < 65536
   ·exact enc3_ok c h h2 h3 w
   ·exact enc4_ok c h h3 w
set_option maxHeartbeats 2000000 in
theorem tText_ok (l : List Int) (v : Value) (W : World) (h : SliceIs W v l) (hl : l.length ≤ 100) (hv : ∀ x ∈ l, isR x = true) : Calls Tryz.prog 44 #[v] W (TextPost l W) := by
 obtain ⟨A, c, rfl, hc, hcell⟩ := h
 obtain ⟨n, hn⟩ : ∃ n, l.length = n := ⟨_, rfl⟩
 have HC := Lib.hid hcell; have HN := Lib.hid hn; have HV := Lib.hid hv
 clear hcell hv
 rw [hn] at hl hc ⊢
 clear hn
 obtain ⟨i0, hi0, hz0, hz1, hz2⟩ := info_parts byte_info
 go_enter Tryz.func44, Tryz.ntmps44
 go_wp2
 go_loopw [3, 4] (fun vb i wr => ∃ k : Nat, k ≤ n ∧ i = .int .i64 k ∧ TxL W l k vb wr) (fun _ i _ => n - (RowKit.intOf i).toNat)
 case atStart => exact ⟨0, Nat.zero_le _, rfl, Below.refl _ _, ⟨rfl, .inl ⟨rfl, rfl⟩⟩⟩
 case round =>
  obtain ⟨k, hk, rfl, hE⟩ := hrel
  have HE := Lib.hid hE; clear hE
  obtain ⟨A1, c1, rfl, _⟩ := own_slice HE.out.own
  by_cases hlt : k < n
  ·obtain ⟨g, o, rfl, hg⟩ := HC.out (by rw [HN.out]; omega)
   have d0 := hg k (by rw [HN.out]; exact hlt)
   have hgs := cell_lt d0
   rw [← HE.out.bel.cell (p := ⟨g, o + k, none⟩) hgs] at d0
   clear hg hgs
   have hrv : isR (l.getD k 0) = true := HV.out _ (by
    rw [List.getD_eq_getElem?_getD, List.getElem?_eq_getElem (by rw [HN.out]; exact hlt)]
    exact List.getElem_mem _)
   obtain ⟨r, hr⟩ : ∃ r, l.getD k 0 = r := ⟨_, rfl⟩
   rw [hr] at d0 hrv
   have HRV := Lib.hid hrv
   have HT := Lib.hid (encL_take l (k := k) (by rw [HN.out]; exact hlt))
   have HR := Lib.hid hr; clear hr hrv
   have hlen := encL_len (l.take k)
   rw [List.length_take] at hlen
   have hlr := encR_len r
   have HL := Lib.hid (And.intro hlen hlr); clear hlen hlr
   go_wp2_with (first
    | (go_at_call 49; refine (tEncode_ok r HRV.out _).mono ?_; rintro e w1 ⟨rfl, hb1⟩; have HB1 := Lib.hid hb1; clear hb1; have HO1 := Lib.hid (own_below HB1.out HE.out.own))
    | (at_builtin
       (refine wpList_app_str _ rfl (.tmp 11) (.tmp 16) 103 9 5 rfl Tryz.underlying103 Tryz.underlying9 W.heap.size i0 hi0 hz0 hz1 hz2 _ _ _ rfl HO1.out (encR r) _ rfl rfl ?_ ?_ ?_)
       ·have := HL.out; have := HN.out; omega
       ·exact Nat.le_trans HE.out.bel.size HB1.out.size
       intro v' w2 hown2 hgrow2 hat2
       obtain ⟨A2, c2, rfl, _⟩ := own_slice hown2
       have HO2 := Lib.hid hown2; have HG2 := Lib.hid hgrow2; clear hown2 hgrow2 hat2))
   go_roundw
   case rel =>
    refine ⟨k + 1, hlt, by go_num, ?_, ?_⟩
    ·exact (HE.out.bel.trans (HB1.out.mono HE.out.bel.size)).grown HG2.out (Nat.le_trans HE.out.bel.size HB1.out.size) (fun g hg => (own_lt HO1.out hg).1)
    ·have := HO2.out
     rw [← bytesV_app, ← HR.out] at this
     rw [← HR.out, HT.out, List.length_append]
     exact this
   case measure => simp [RowKit.intOf]; omega
  ·obtain rfl : k = n := by omega
   have htk : l.take k = l := List.take_of_length_le (by rw [HN.out]; exact Nat.le_refl _)
   obtain ⟨hl2, A2, c2, he, hbr, _⟩ := BR.of_own HE.out.own
   injection he with e1 e2 e3
   subst e1
   have hconv := fun c => conv_br hbr c
   rw [htk] at hconv
   have HTK := Lib.hid htk; clear htk hbr
   rw [HTK.out]
   go_wp2
   go_ret
   exact ⟨rfl, HE.out.bel⟩
end
section
open Go.Shelf Go.RowKit Go.Lib Go.Proofs.YtnfghboholehdaaGreatDoor.Am
open Folds (dec dec_pos dec_le)
open Pieces (bt bt_lt bt_app)
theorem cont_all : ((List.range 256).all fun b => (bits BinOp.and IntKind.u8 (b : Int) 192 != 128) == decide (b / 64 ≠ 2)) = true := by decide +kernel
theorem cont_bits {b : Nat} (h : b < 256) : (bits BinOp.and IntKind.u8 (b : Int) 192 != 128) = decide (b / 64 ≠ 2) := by
 have := List.all_eq_true.1 cont_all b (List.mem_range.2 h)
 exact eq_of_beq this
theorem byte_at (s : ByteArray) (l : List UInt8) (hs : (⟨l.toArray⟩ : ByteArray) = s) (i : Nat) (h : i < s.size) : (s[i]'h).toNat = bt l i := by
 subst hs
 have h' : i < l.length := by simpa [ByteArray.size] using h
 show ((⟨l.toArray⟩ : ByteArray).data[i]'(by simpa using h')).toNat = _
 unfold bt
 rw [List.getD_eq_getElem?_getD, List.getElem?_eq_getElem h']
 simp
def DecPost (n b0 b1 b2 b3 : Nat) (w : World) (e : Ending) (w' : World) : Prop := e = .returned (.tuple #[.int .i32 (decodeN n b0 b1 b2 b3).1, .int .i64 (decodeN n b0 b1 b2 b3).2]) ∧ w' = w
theorem decPost_of {n b0 b1 b2 b3 r k : Nat} {w : World} (h : decodeN n b0 b1 b2 b3 = (r, k)) {v : Value} (hv : v = .tuple #[.int .i32 (r : Nat), .int .i64 (k : Nat)]) : DecPost n b0 b1 b2 b3 w (.returned v) w := by
 subst hv
 unfold DecPost
 rw [h]
 exact ⟨rfl, rfl⟩
theorem fault0 (n b0 b1 b2 b3 : Nat) (h : (128 ≤ b0 ∧ b0 < 192) ∨ (248 ≤ b0 ∧ b0 < 256)) : decodeN n b0 b1 b2 b3 = (65533, 1) := by
 unfold decodeN
 rw [if_neg (by omega), if_neg (by omega), if_neg (by omega), if_neg (by omega)]
theorem fault2 (n b0 b1 b2 b3 : Nat) (h : 192 ≤ b0 ∧ b0 < 224) (h2 : n < 2 ∨ b1 / 64 ≠ 2 ∨ b0 % 32 * 64 + b1 % 64 < 128) : decodeN n b0 b1 b2 b3 = (65533, 1) := by
 unfold decodeN
 rw [if_neg (by omega)]
 by_cases c : b0 / 32 = 6 ∧ (1 < n ∧ b1 / 64 = 2)
 ·rw [if_pos c, if_neg (by omega)]
 ·rw [if_neg c, if_neg (by omega), if_neg (by omega)]
theorem good2 (n b0 b1 b2 b3 : Nat) (h : 192 ≤ b0 ∧ b0 < 224) (h2 : 2 ≤ n ∧ b1 / 64 = 2 ∧ 128 ≤ b0 % 32 * 64 + b1 % 64) : decodeN n b0 b1 b2 b3 = (b0 % 32 * 64 + b1 % 64, 2) := by
 unfold decodeN
 rw [if_neg (by omega), if_pos (by omega), if_pos (by omega)]
theorem fault3 (n b0 b1 b2 b3 : Nat) (h : 224 ≤ b0 ∧ b0 < 240) (h2 : n < 3 ∨ b1 / 64 ≠ 2 ∨ b2 / 64 ≠ 2 ∨ ¬ (b0 % 16 * 4096 + b1 % 64 * 64 + b2 % 64 ≥ 2048 ∧ (b0 % 16 * 4096 + b1 % 64 * 64 + b2 % 64 < 55296 ∨ 57344 ≤ b0 % 16 * 4096 + b1 % 64 * 64 + b2 % 64))) : decodeN n b0 b1 b2 b3 = (65533, 1) := by
 unfold decodeN
 rw [if_neg (by omega), if_neg (by omega)]
 by_cases c : b0 / 16 = 14 ∧ (1 < n ∧ b1 / 64 = 2) ∧ (2 < n ∧ b2 / 64 = 2)
 ·rw [if_pos c, if_neg (by omega)]
 ·rw [if_neg c, if_neg (by omega)]
theorem good3 (n b0 b1 b2 b3 : Nat) (h : 224 ≤ b0 ∧ b0 < 240) (h2 : 3 ≤ n ∧ b1 / 64 = 2 ∧ b2 / 64 = 2 ∧ (b0 % 16 * 4096 + b1 % 64 * 64 + b2 % 64 ≥ 2048 ∧ (b0 % 16 * 4096 + b1 % 64 * 64 + b2 % 64 < 55296 ∨ 57344 ≤ b0 % 16 * 4096 + b1 % 64 * 64 + b2 % 64))) : decodeN n b0 b1 b2 b3 = (b0 % 16 * 4096 + b1 % 64 * 64 + b2 % 64, 3) := by
 unfold decodeN
 rw [if_neg (by omega), if_neg (by omega), if_pos (by omega), if_pos (by omega)]
theorem fault4 (n b0 b1 b2 b3 : Nat) (h : 240 ≤ b0 ∧ b0 < 248) (h2 : n < 4 ∨ b1 / 64 ≠ 2 ∨ b2 / 64 ≠ 2 ∨ b3 / 64 ≠ 2 ∨ ¬ (b0 % 8 * 262144 + b1 % 64 * 4096 + b2 % 64 * 64 + b3 % 64 ≥ 65536 ∧ b0 % 8 * 262144 + b1 % 64 * 4096 + b2 % 64 * 64 + b3 % 64 ≤ 1114111)) : decodeN n b0 b1 b2 b3 = (65533, 1) := by
 unfold decodeN
 rw [if_neg (by omega), if_neg (by omega), if_neg (by omega)]
 by_cases c : b0 / 8 = 30 ∧ (1 < n ∧ b1 / 64 = 2) ∧ (2 < n ∧ b2 / 64 = 2) ∧ (3 < n ∧ b3 / 64 = 2)
 ·rw [if_pos c, if_neg (by omega)]
 ·rw [if_neg c]
theorem good4 (n b0 b1 b2 b3 : Nat) (h : 240 ≤ b0 ∧ b0 < 248) (h2 : 4 ≤ n ∧ b1 / 64 = 2 ∧ b2 / 64 = 2 ∧ b3 / 64 = 2 ∧ (b0 % 8 * 262144 + b1 % 64 * 4096 + b2 % 64 * 64 + b3 % 64 ≥ 65536 ∧ b0 % 8 * 262144 + b1 % 64 * 4096 + b2 % 64 * 64 + b3 % 64 ≤ 1114111)) : decodeN n b0 b1 b2 b3 = (b0 % 8 * 262144 + b1 % 64 * 4096 + b2 % 64 * 64 + b3 % 64, 4) := by
 unfold decodeN
 rw [if_neg (by omega), if_neg (by omega), if_neg (by omega), if_pos (by omega), if_pos (by omega)]
set_option maxRecDepth 100000 in
set_option maxHeartbeats 2000000 in
theorem decA_ok (s : ByteArray) (h : 0 < s.size) (b0 b1 b2 b3 : Nat) (x0 : (s[0]'h).toNat = b0) (hb : (128 ≤ b0 ∧ b0 < 192) ∨ (248 ≤ b0 ∧ b0 < 256)) (w : World) : Calls Tryz.prog 74 #[.string s] w (DecPost s.size b0 b1 b2 b3 w) := by
 have HL := Lib.hid (show leadF (b0 : Int) = (0, 0) by unfold leadF; rw [if_neg (by omega), if_neg (by omega), if_neg (by omega), if_neg (by omega)])
 have HD := Lib.hid (fault0 s.size b0 b1 b2 b3 hb)
 have HB := Lib.hid (show b0 < 256 by omega)
 clear hb
 have hne : ((s.size : Int) == 0) = false := by rw [beq_eq_false_iff_ne]; omega
 go_enter Tryz.func74, Tryz.ntmps74
 go_wp2_with (go_at_call 112; refine (lead_ok _ (by omega) (by have := HB.out; omega) _).mono ?_; rintro e w1 ⟨rfl, rfl⟩; rw [HL.out])
 go_ret2
 exact decPost_of HD.out rfl
set_option maxRecDepth 100000 in
set_option maxHeartbeats 2000000 in
theorem decB_ok (s : ByteArray) (h : 0 < s.size) (b0 b1 b2 b3 : Nat) (x0 : (s[0]'h).toNat = b0) (hb : b0 < 128) (w : World) : Calls Tryz.prog 74 #[.string s] w (DecPost s.size b0 b1 b2 b3 w) := by
 have HL := Lib.hid (show leadF (b0 : Int) = (1, (b0 : Int)) by unfold leadF; rw [if_pos (by omega)])
 have HD := Lib.hid (decodeN_ascii s.size b0 b1 b2 b3 hb)
 have HB := Lib.hid hb
 have HW := Lib.hid (show widF (b0 : Int) = 1 by unfold widF; rw [if_pos ((isR_iff _).2 (by omega)), if_pos (by omega)])
 clear hb
 have hne : ((s.size : Int) == 0) = false := by rw [beq_eq_false_iff_ne]; omega
 go_enter Tryz.func74, Tryz.ntmps74
 go_wp2_with (go_at_call 112; refine (lead_ok _ (by omega) (by have := HB.out; omega) _).mono ?_; rintro e w1 ⟨rfl, rfl⟩; rw [HL.out])
 go_loopw [6, 5] (fun vi vr wr => wr = w1 ∧ vi = .int .i64 1 ∧ vr = .int .i32 (b0 : Int)) (fun _ _ _ => 0)
 case atStart => exact ⟨rfl, rfl, rfl⟩
 case round =>
  obtain ⟨rfl, rfl, rfl⟩ := hrel
  go_wp2_with (go_at_call 80; refine (tWidth_ok _ _).mono ?_; rintro e w2 ⟨rfl, rfl⟩; rw [HW.out])
  go_ret2
  exact decPost_of HD.out rfl
theorem wid_ne2 (rr : Int) (h0 : 0 ≤ rr) (h1 : rr ≤ 2047) (h : ¬ (128 ≤ rr)) : widF rr ≠ 2 := by
 unfold widF
 by_cases c : isR rr = true
 ·have := (isR_iff _).1 c
  rw [if_pos c]
  repeat' split
  all_goals omega
 ·rw [if_neg c]
  omega
set_option maxRecDepth 100000 in
set_option maxHeartbeats 2000000 in
theorem dec2S_ok (s : ByteArray) (h : 0 < s.size) (hk : s.size < 2) (b0 b1 b2 b3 : Nat) (x0 : (s[0]'h).toNat = b0) (a0 : 192 ≤ b0) (a1 : b0 < 224) (w : World) : Calls Tryz.prog 74 #[.string s] w (DecPost s.size b0 b1 b2 b3 w) := by
 have HL := Lib.hid (show leadF (b0 : Int) = (2, (b0 : Int) % 32) by unfold leadF; rw [if_neg (by omega), if_pos (by omega)])
 have HD := Lib.hid (fault2 s.size b0 b1 b2 b3 ⟨a0, a1⟩ (.inl hk))
 have HB := Lib.hid (show b0 < 256 by omega)
 clear a0 a1
 have hne : ((s.size : Int) == 0) = false := by rw [beq_eq_false_iff_ne]; omega
 go_enter Tryz.func74, Tryz.ntmps74
 go_wp2_with (go_at_call 112; refine (lead_ok _ (by omega) (by have := HB.out; omega) _).mono ?_; rintro e w1 ⟨rfl, rfl⟩; rw [HL.out])
 go_ret2
 exact decPost_of HD.out rfl
set_option maxRecDepth 100000 in
set_option maxHeartbeats 2000000 in
theorem dec2_ok (s : ByteArray) (hk : 2 ≤ s.size) (hz : s.size ≤ 100000) (b0 b1 b2 b3 : Nat) (x0 : (s[0]'(by omega)).toNat = b0) (x1 : (s[1]'(by omega)).toNat = b1) (h1 : b1 < 256) (a0 : 192 ≤ b0) (a1 : b0 < 224) (w : World) : Calls Tryz.prog 74 #[.string s] w (DecPost s.size b0 b1 b2 b3 w) := by
 have HL := Lib.hid (show leadF (b0 : Int) = (2, (b0 : Int) % 32) by unfold leadF; rw [if_neg (by omega), if_pos (by omega)])
 have HF := Lib.hid (fault2 s.size b0 b1 b2 b3 ⟨a0, a1⟩)
 have HG := Lib.hid (good2 s.size b0 b1 b2 b3 ⟨a0, a1⟩)
 have HB := Lib.hid (show b0 < 256 by omega)
 have HC1 := Lib.hid (cont_bits h1)
 have hne : ((s.size : Int) == 0) = false := by rw [beq_eq_false_iff_ne]; omega
 have hsz : decide ((s.size : Int) < 2) = false := decide_eq_false (by omega)
 clear a0 a1
 go_enter Tryz.func74, Tryz.ntmps74
 go_wp2_with (go_at_call 112; refine (lead_ok _ (by omega) (by have := HB.out; omega) _).mono ?_; rintro e w1 ⟨rfl, rfl⟩; rw [HL.out])
 obtain ⟨r0, hr0⟩ : ∃ r0 : Int, (b0 : Int) % 32 = r0 := ⟨_, rfl⟩
 have q0 : 0 ≤ r0 := by omega
 have q1 : r0 < 32 := by omega
 rw [hr0]
 have HR0 := Lib.hid hr0
 clear hr0
 go_loopw [6, 5] (fun vi vr wr => wr = w1 ∧ ((vi = .int .i64 1 ∧ vr = .int .i32 r0) ∨ (vi = .int .i64 2 ∧ vr = .int .i32 (r0 * 64 + (b1 : Int) % 64) ∧ b1 / 64 = 2))) (fun vi _ _ => (2 - RowKit.intOf vi).toNat)
 case atStart => exact ⟨rfl, .inl ⟨rfl, rfl⟩⟩
 case round =>
  obtain ⟨rfl, ⟨rfl, rfl⟩ | ⟨rfl, rfl, k1⟩⟩ := hrel
  ·by_cases c1 : b1 / 64 = 2
   ·have hc : (bits BinOp.and IntKind.u8 (b1 : Int) 192 != 128) = false := by rw [HC1.out]; exact decide_eq_false (fun h => h c1)
    have C1 := Lib.hid c1; clear c1
    go_wp2_with fail
    go_roundw
    case rel => exact ⟨by first | rfl | trivial, .inr (⟨rfl, rfl, C1.out⟩)⟩
    case measure => simp [RowKit.intOf]
   ·have hc : (bits BinOp.and IntKind.u8 (b1 : Int) 192 != 128) = true := by rw [HC1.out]; exact decide_eq_true c1
    have C1 := Lib.hid c1; clear c1
    go_wp2_with fail
    go_ret2
    exact decPost_of (HF.out (.inr (.inl C1.out))) rfl
  ·have K1 := Lib.hid k1; clear k1; obtain ⟨rr, hrr⟩ : ∃ rr : Int, (r0 * 64 + (b1 : Int) % 64) = rr := ⟨_, rfl⟩
   have HRR := Lib.hid hrr
   have hfull : rr = ((b0 % 32 * 64 + b1 % 64 : Nat) : Int) := by have := HR0.out; omega
   have hub : 0 ≤ rr ∧ rr ≤ 2047 := by omega
   by_cases cw : 128 ≤ rr
   ·have HW := Lib.hid (show widF rr = 2 by unfold widF; rw [if_pos ((isR_iff _).2 (by omega)), if_neg (by omega), if_pos (by omega)])
    have HD := Lib.hid (HG.out ⟨hk, K1.out, by omega⟩)
    have HFU := Lib.hid hfull
    clear hrr hfull cw hub
    go_wp2_with (go_at_call 80; refine (tWidth_ok _ _).mono ?_; rintro e w2 ⟨rfl, rfl⟩; rw [HRR.out, HW.out])
    go_ret2
    exact decPost_of HD.out (by rw [← HFU.out, ← HRR.out]; rfl)
   ·have hwne : widF rr ≠ 2 := wid_ne2 rr hub.1 hub.2 cw
    have HD := Lib.hid (HF.out (.inr (.inr (by omega))))
    obtain ⟨ww, hww⟩ : ∃ ww, widF rr = ww := ⟨_, rfl⟩
    rw [hww] at hwne
    have HW := Lib.hid hww
    have hb : (((ww : Nat) : Int) != 2) = true := by simp; omega
    clear hrr hfull cw hub hww
    go_wp2_with (go_at_call 80; refine (tWidth_ok _ _).mono ?_; rintro e w2 ⟨rfl, rfl⟩; rw [HRR.out, HW.out])
    go_ret2
    exact decPost_of HD.out rfl
theorem wid_ne3 (rr : Int) (h0 : 0 ≤ rr) (h1 : rr ≤ 65535) (h : ¬ (2048 ≤ rr ∧ (rr < 55296 ∨ 57343 < rr))) : widF rr ≠ 3 := by
 unfold widF
 by_cases c : isR rr = true
 ·have := (isR_iff _).1 c
  rw [if_pos c]
  repeat' split
  all_goals omega
 ·rw [if_neg c]
  omega
set_option maxRecDepth 100000 in
set_option maxHeartbeats 2000000 in
theorem dec3S_ok (s : ByteArray) (h : 0 < s.size) (hk : s.size < 3) (b0 b1 b2 b3 : Nat) (x0 : (s[0]'h).toNat = b0) (a0 : 224 ≤ b0) (a1 : b0 < 240) (w : World) : Calls Tryz.prog 74 #[.string s] w (DecPost s.size b0 b1 b2 b3 w) := by
 have HL := Lib.hid (show leadF (b0 : Int) = (3, (b0 : Int) % 16) by unfold leadF; rw [if_neg (by omega), if_neg (by omega), if_pos (by omega)])
 have HD := Lib.hid (fault3 s.size b0 b1 b2 b3 ⟨a0, a1⟩ (.inl hk))
 have HB := Lib.hid (show b0 < 256 by omega)
 clear a0 a1
 have hne : ((s.size : Int) == 0) = false := by rw [beq_eq_false_iff_ne]; omega
 go_enter Tryz.func74, Tryz.ntmps74
 go_wp2_with (go_at_call 112; refine (lead_ok _ (by omega) (by have := HB.out; omega) _).mono ?_; rintro e w1 ⟨rfl, rfl⟩; rw [HL.out])
 go_ret2
 exact decPost_of HD.out rfl
set_option maxRecDepth 100000 in
set_option maxHeartbeats 2000000 in
theorem dec3_ok (s : ByteArray) (hk : 3 ≤ s.size) (hz : s.size ≤ 100000) (b0 b1 b2 b3 : Nat) (x0 : (s[0]'(by omega)).toNat = b0) (x1 : (s[1]'(by omega)).toNat = b1) (x2 : (s[2]'(by omega)).toNat = b2) (h1 : b1 < 256) (h2 : b2 < 256) (a0 : 224 ≤ b0) (a1 : b0 < 240) (w : World) : Calls Tryz.prog 74 #[.string s] w (DecPost s.size b0 b1 b2 b3 w) := by
 have HL := Lib.hid (show leadF (b0 : Int) = (3, (b0 : Int) % 16) by unfold leadF; rw [if_neg (by omega), if_neg (by omega), if_pos (by omega)])
 have HF := Lib.hid (fault3 s.size b0 b1 b2 b3 ⟨a0, a1⟩)
 have HG := Lib.hid (good3 s.size b0 b1 b2 b3 ⟨a0, a1⟩)
 have HB := Lib.hid (show b0 < 256 by omega)
 have HC1 := Lib.hid (cont_bits h1)
 have HC2 := Lib.hid (cont_bits h2)
 have hne : ((s.size : Int) == 0) = false := by rw [beq_eq_false_iff_ne]; omega
 have hsz : decide ((s.size : Int) < 3) = false := decide_eq_false (by omega)
 clear a0 a1
 go_enter Tryz.func74, Tryz.ntmps74
 go_wp2_with (go_at_call 112; refine (lead_ok _ (by omega) (by have := HB.out; omega) _).mono ?_; rintro e w1 ⟨rfl, rfl⟩; rw [HL.out])
 obtain ⟨r0, hr0⟩ : ∃ r0 : Int, (b0 : Int) % 16 = r0 := ⟨_, rfl⟩
 have q0 : 0 ≤ r0 := by omega
 have q1 : r0 < 16 := by omega
 rw [hr0]
 have HR0 := Lib.hid hr0
 clear hr0
 go_loopw [6, 5] (fun vi vr wr => wr = w1 ∧ ((vi = .int .i64 1 ∧ vr = .int .i32 r0) ∨ (vi = .int .i64 2 ∧ vr = .int .i32 (r0 * 64 + (b1 : Int) % 64) ∧ b1 / 64 = 2) ∨ (vi = .int .i64 3 ∧ vr = .int .i32 ((r0 * 64 + (b1 : Int) % 64) * 64 + (b2 : Int) % 64) ∧ b1 / 64 = 2 ∧ b2 / 64 = 2))) (fun vi _ _ => (3 - RowKit.intOf vi).toNat)
 case atStart => exact ⟨rfl, .inl ⟨rfl, rfl⟩⟩
 case round =>
  obtain ⟨rfl, ⟨rfl, rfl⟩ | ⟨rfl, rfl, k1⟩ | ⟨rfl, rfl, k1, k2⟩⟩ := hrel
  ·by_cases c1 : b1 / 64 = 2
   ·have hc : (bits BinOp.and IntKind.u8 (b1 : Int) 192 != 128) = false := by rw [HC1.out]; exact decide_eq_false (fun h => h c1)
    have C1 := Lib.hid c1; clear c1
    go_wp2_with fail
    go_roundw
    case rel => exact ⟨by first | rfl | trivial, .inr (.inl ⟨rfl, rfl, C1.out⟩)⟩
    case measure => simp [RowKit.intOf]
   ·have hc : (bits BinOp.and IntKind.u8 (b1 : Int) 192 != 128) = true := by rw [HC1.out]; exact decide_eq_true c1
    have C1 := Lib.hid c1; clear c1
    go_wp2_with fail
    go_ret2
    exact decPost_of (HF.out (.inr (.inl C1.out))) rfl
  ·have K1 := Lib.hid k1; clear k1; by_cases c2 : b2 / 64 = 2
   ·have hc : (bits BinOp.and IntKind.u8 (b2 : Int) 192 != 128) = false := by rw [HC2.out]; exact decide_eq_false (fun h => h c2)
    have C2 := Lib.hid c2; clear c2
    go_wp2_with fail
    go_roundw
    case rel => exact ⟨by first | rfl | trivial, .inr (.inr (⟨rfl, rfl, K1.out, C2.out⟩))⟩
    case measure => simp [RowKit.intOf]
   ·have hc : (bits BinOp.and IntKind.u8 (b2 : Int) 192 != 128) = true := by rw [HC2.out]; exact decide_eq_true c2
    have C2 := Lib.hid c2; clear c2
    go_wp2_with fail
    go_ret2
    exact decPost_of (HF.out (.inr (.inr (.inl C2.out)))) rfl
  ·have K1 := Lib.hid k1; clear k1; have K2 := Lib.hid k2; clear k2; obtain ⟨rr, hrr⟩ : ∃ rr : Int, ((r0 * 64 + (b1 : Int) % 64) * 64 + (b2 : Int) % 64) = rr := ⟨_, rfl⟩
   have HRR := Lib.hid hrr
   have hfull : rr = ((b0 % 16 * 4096 + b1 % 64 * 64 + b2 % 64 : Nat) : Int) := by have := HR0.out; omega
   have hub : 0 ≤ rr ∧ rr ≤ 65535 := by omega
   by_cases cw : 2048 ≤ rr ∧ (rr < 55296 ∨ 57343 < rr)
   ·have HW := Lib.hid (show widF rr = 3 by unfold widF; rw [if_pos ((isR_iff _).2 (by omega)), if_neg (by omega), if_neg (by omega), if_pos (by omega)])
    have HD := Lib.hid (HG.out ⟨hk, K1.out, K2.out, by omega⟩)
    have HFU := Lib.hid hfull
    clear hrr hfull cw hub
    go_wp2_with (go_at_call 80; refine (tWidth_ok _ _).mono ?_; rintro e w2 ⟨rfl, rfl⟩; rw [HRR.out, HW.out])
    go_ret2
    exact decPost_of HD.out (by rw [← HFU.out, ← HRR.out]; rfl)
   ·have hwne : widF rr ≠ 3 := wid_ne3 rr hub.1 hub.2 cw
    have HD := Lib.hid (HF.out (.inr (.inr (.inr (by omega)))))
    obtain ⟨ww, hww⟩ : ∃ ww, widF rr = ww := ⟨_, rfl⟩
    rw [hww] at hwne
    have HW := Lib.hid hww
    have hb : (((ww : Nat) : Int) != 3) = true := by simp; omega
    clear hrr hfull cw hub hww
    go_wp2_with (go_at_call 80; refine (tWidth_ok _ _).mono ?_; rintro e w2 ⟨rfl, rfl⟩; rw [HRR.out, HW.out])
    go_ret2
    exact decPost_of HD.out rfl
theorem wid_ne4 (rr : Int) (h0 : 0 ≤ rr) (h1 : rr ≤ 2097151) (h : ¬ (65536 ≤ rr ∧ rr ≤ 1114111)) : widF rr ≠ 4 := by
 unfold widF
 by_cases c : isR rr = true
 ·have := (isR_iff _).1 c
  rw [if_pos c]
  repeat' split
  all_goals omega
 ·rw [if_neg c]
  omega
set_option maxRecDepth 100000 in
set_option maxHeartbeats 2000000 in
theorem dec4S_ok (s : ByteArray) (h : 0 < s.size) (hk : s.size < 4) (b0 b1 b2 b3 : Nat) (x0 : (s[0]'h).toNat = b0) (a0 : 240 ≤ b0) (a1 : b0 < 248) (w : World) : Calls Tryz.prog 74 #[.string s] w (DecPost s.size b0 b1 b2 b3 w) := by
 have HL := Lib.hid (show leadF (b0 : Int) = (4, (b0 : Int) % 8) by unfold leadF; rw [if_neg (by omega), if_neg (by omega), if_neg (by omega), if_pos (by omega)])
 have HD := Lib.hid (fault4 s.size b0 b1 b2 b3 ⟨a0, a1⟩ (.inl hk))
 have HB := Lib.hid (show b0 < 256 by omega)
 clear a0 a1
 have hne : ((s.size : Int) == 0) = false := by rw [beq_eq_false_iff_ne]; omega
 go_enter Tryz.func74, Tryz.ntmps74
 go_wp2_with (go_at_call 112; refine (lead_ok _ (by omega) (by have := HB.out; omega) _).mono ?_; rintro e w1 ⟨rfl, rfl⟩; rw [HL.out])
 go_ret2
 exact decPost_of HD.out rfl
set_option maxRecDepth 100000 in
set_option maxHeartbeats 2000000 in
theorem dec4_ok (s : ByteArray) (hk : 4 ≤ s.size) (hz : s.size ≤ 100000) (b0 b1 b2 b3 : Nat) (x0 : (s[0]'(by omega)).toNat = b0) (x1 : (s[1]'(by omega)).toNat = b1) (x2 : (s[2]'(by omega)).toNat = b2) (x3 : (s[3]'(by omega)).toNat = b3) (h1 : b1 < 256) (h2 : b2 < 256) (h3 : b3 < 256) (a0 : 240 ≤ b0) (a1 : b0 < 248) (w : World) : Calls Tryz.prog 74 #[.string s] w (DecPost s.size b0 b1 b2 b3 w) := by
 have HL := Lib.hid (show leadF (b0 : Int) = (4, (b0 : Int) % 8) by unfold leadF; rw [if_neg (by omega), if_neg (by omega), if_neg (by omega), if_pos (by omega)])
 have HF := Lib.hid (fault4 s.size b0 b1 b2 b3 ⟨a0, a1⟩)
 have HG := Lib.hid (good4 s.size b0 b1 b2 b3 ⟨a0, a1⟩)
 have HB := Lib.hid (show b0 < 256 by omega)
 have HC1 := Lib.hid (cont_bits h1)
 have HC2 := Lib.hid (cont_bits h2)
 have HC3 := Lib.hid (cont_bits h3)
 have hne : ((s.size : Int) == 0) = false := by rw [beq_eq_false_iff_ne]; omega
 have hsz : decide ((s.size : Int) < 4) = false := decide_eq_false (by omega)
 clear a0 a1
 go_enter Tryz.func74, Tryz.ntmps74
 go_wp2_with (go_at_call 112; refine (lead_ok _ (by omega) (by have := HB.out; omega) _).mono ?_; rintro e w1 ⟨rfl, rfl⟩; rw [HL.out])
 obtain ⟨r0, hr0⟩ : ∃ r0 : Int, (b0 : Int) % 8 = r0 := ⟨_, rfl⟩
 have q0 : 0 ≤ r0 := by omega
 have q1 : r0 < 8 := by omega
 rw [hr0]
 have HR0 := Lib.hid hr0
 clear hr0
 go_loopw [6, 5] (fun vi vr wr => wr = w1 ∧ ((vi = .int .i64 1 ∧ vr = .int .i32 r0) ∨ (vi = .int .i64 2 ∧ vr = .int .i32 (r0 * 64 + (b1 : Int) % 64) ∧ b1 / 64 = 2) ∨ (vi = .int .i64 3 ∧ vr = .int .i32 ((r0 * 64 + (b1 : Int) % 64) * 64 + (b2 : Int) % 64) ∧ b1 / 64 = 2 ∧ b2 / 64 = 2) ∨ (vi = .int .i64 4 ∧ vr = .int .i32 (((r0 * 64 + (b1 : Int) % 64) * 64 + (b2 : Int) % 64) * 64 + (b3 : Int) % 64) ∧ b1 / 64 = 2 ∧ b2 / 64 = 2 ∧ b3 / 64 = 2))) (fun vi _ _ => (4 - RowKit.intOf vi).toNat)
 case atStart => exact ⟨rfl, .inl ⟨rfl, rfl⟩⟩
 case round =>
  obtain ⟨rfl, ⟨rfl, rfl⟩ | ⟨rfl, rfl, k1⟩ | ⟨rfl, rfl, k1, k2⟩ | ⟨rfl, rfl, k1, k2, k3⟩⟩ := hrel
  ·by_cases c1 : b1 / 64 = 2
   ·have hc : (bits BinOp.and IntKind.u8 (b1 : Int) 192 != 128) = false := by rw [HC1.out]; exact decide_eq_false (fun h => h c1)
    have C1 := Lib.hid c1; clear c1
    go_wp2_with fail
    go_roundw
    case rel => exact ⟨by first | rfl | trivial, .inr (.inl ⟨rfl, rfl, C1.out⟩)⟩
    case measure => simp [RowKit.intOf]
   ·have hc : (bits BinOp.and IntKind.u8 (b1 : Int) 192 != 128) = true := by rw [HC1.out]; exact decide_eq_true c1
    have C1 := Lib.hid c1; clear c1
    go_wp2_with fail
    go_ret2
    exact decPost_of (HF.out (.inr (.inl C1.out))) rfl
  ·have K1 := Lib.hid k1; clear k1; by_cases c2 : b2 / 64 = 2
   ·have hc : (bits BinOp.and IntKind.u8 (b2 : Int) 192 != 128) = false := by rw [HC2.out]; exact decide_eq_false (fun h => h c2)
    have C2 := Lib.hid c2; clear c2
    go_wp2_with fail
    go_roundw
    case rel => exact ⟨by first | rfl | trivial, .inr (.inr (.inl ⟨rfl, rfl, K1.out, C2.out⟩))⟩
    case measure => simp [RowKit.intOf]
   ·have hc : (bits BinOp.and IntKind.u8 (b2 : Int) 192 != 128) = true := by rw [HC2.out]; exact decide_eq_true c2
    have C2 := Lib.hid c2; clear c2
    go_wp2_with fail
    go_ret2
    exact decPost_of (HF.out (.inr (.inr (.inl C2.out)))) rfl
  ·have K1 := Lib.hid k1; clear k1; have K2 := Lib.hid k2; clear k2; by_cases c3 : b3 / 64 = 2
   ·have hc : (bits BinOp.and IntKind.u8 (b3 : Int) 192 != 128) = false := by rw [HC3.out]; exact decide_eq_false (fun h => h c3)
    have C3 := Lib.hid c3; clear c3
    go_wp2_with fail
    go_roundw
    case rel => exact ⟨by first | rfl | trivial, .inr (.inr (.inr (⟨rfl, rfl, K1.out, K2.out, C3.out⟩)))⟩
    case measure => simp [RowKit.intOf]
   ·have hc : (bits BinOp.and IntKind.u8 (b3 : Int) 192 != 128) = true := by rw [HC3.out]; exact decide_eq_true c3
    have C3 := Lib.hid c3; clear c3
    go_wp2_with fail
    go_ret2
    exact decPost_of (HF.out (.inr (.inr (.inr (.inl C3.out))))) rfl
  ·have K1 := Lib.hid k1; clear k1; have K2 := Lib.hid k2; clear k2; have K3 := Lib.hid k3; clear k3; obtain ⟨rr, hrr⟩ : ∃ rr : Int, (((r0 * 64 + (b1 : Int) % 64) * 64 + (b2 : Int) % 64) * 64 + (b3 : Int) % 64) = rr := ⟨_, rfl⟩
   have HRR := Lib.hid hrr
   have hfull : rr = ((b0 % 8 * 262144 + b1 % 64 * 4096 + b2 % 64 * 64 + b3 % 64 : Nat) : Int) := by have := HR0.out; omega
   have hub : 0 ≤ rr ∧ rr ≤ 2097151 := by omega
   by_cases cw : 65536 ≤ rr ∧ rr ≤ 1114111
   ·have HW := Lib.hid (show widF rr = 4 by unfold widF; rw [if_pos ((isR_iff _).2 (by omega)), if_neg (by omega), if_neg (by omega), if_neg (by omega)])
    have HD := Lib.hid (HG.out ⟨hk, K1.out, K2.out, K3.out, by omega⟩)
    have HFU := Lib.hid hfull
    clear hrr hfull cw hub
    go_wp2_with (go_at_call 80; refine (tWidth_ok _ _).mono ?_; rintro e w2 ⟨rfl, rfl⟩; rw [HRR.out, HW.out])
    go_ret2
    exact decPost_of HD.out (by rw [← HFU.out, ← HRR.out]; rfl)
   ·have hwne : widF rr ≠ 4 := wid_ne4 rr hub.1 hub.2 cw
    have HD := Lib.hid (HF.out (.inr (.inr (.inr (.inr (by omega))))))
    obtain ⟨ww, hww⟩ : ∃ ww, widF rr = ww := ⟨_, rfl⟩
    rw [hww] at hwne
    have HW := Lib.hid hww
    have hb : (((ww : Nat) : Int) != 4) = true := by simp; omega
    clear hrr hfull cw hub hww
    go_wp2_with (go_at_call 80; refine (tWidth_ok _ _).mono ?_; rintro e w2 ⟨rfl, rfl⟩; rw [HRR.out, HW.out])
    go_ret2
    exact decPost_of HD.out rfl
theorem tDecode_ok (l : List UInt8) (h0 : l ≠ []) (hz : l.length ≤ 100000) (w : World) : Calls Tryz.prog 74 #[.string ⟨l.toArray⟩] w fun e w' => e = .returned (.tuple #[.int .i32 (dec l).1, .int .i64 (dec l).2]) ∧ w' = w := by
 obtain ⟨s, hs⟩ : ∃ s : ByteArray, (⟨l.toArray⟩ : ByteArray) = s := ⟨_, rfl⟩
 have hss : s.size = l.length := size_mk l s hs
 have hl := List.length_pos_iff.2 h0
 have key : Calls Tryz.prog 74 #[.string s] w (DecPost s.size (bt l 0) (bt l 1) (bt l 2) (bt l 3) w) := by
  have b0 := bt_lt l 0
  have g : ∀ i (h : i < s.size), (s[i]'h).toNat = bt l i := byte_at s l hs
  have hs0 : 0 < s.size := by omega
  by_cases c1 : bt l 0 < 128
  ·exact decB_ok s hs0 _ _ _ _ (g 0 _) c1 w
  ·by_cases c2 : bt l 0 < 192
   ·exact decA_ok s hs0 _ _ _ _ (g 0 _) (by omega) w
   ·by_cases c3 : bt l 0 < 224
    ·by_cases k : s.size < 2
     ·exact dec2S_ok s hs0 k _ _ _ _ (g 0 _) (by omega) c3 w
     ·exact dec2_ok s (by omega) (by omega) _ _ _ _ (g 0 _) (g 1 _) (bt_lt l 1) (by omega) c3 w
    ·by_cases c4 : bt l 0 < 240
     ·by_cases k : s.size < 3
      ·exact dec3S_ok s hs0 k _ _ _ _ (g 0 _) (by omega) c4 w
      ·exact dec3_ok s (by omega) (by omega) _ _ _ _ (g 0 _) (g 1 _) (g 2 _) (bt_lt l 1) (bt_lt l 2) (by omega) c4 w
     ·by_cases c5 : bt l 0 < 248
      ·by_cases k : s.size < 4
       ·exact dec4S_ok s hs0 k _ _ _ _ (g 0 _) (by omega) c5 w
       ·exact dec4_ok s (by omega) (by omega) _ _ _ _ (g 0 _) (g 1 _) (g 2 _) (g 3 _) (bt_lt l 1) (bt_lt l 2) (bt_lt l 3) (by omega) c5 w
      ·exact decA_ok s hs0 _ _ _ _ (g 0 _) (by omega) w
 rw [hs]
 rw [hss] at key
 exact key
end
section
open Go.Shelf Go.RowKit Go.Lib Go.Proofs.YtnfghboholehdaaGreatDoor.Am
open Folds (dec dec_pos dec_le)
abbrev Mk := Nat × Nat × Nat × Bool
def mkCells (m : Mk) : List Value := [.int .i64 m.1, .int .i64 m.2.1, .int .i32 m.2.2.1, .bool m.2.2.2]
def marksW (l : List Mk) : List Value := l.flatMap mkCells
theorem marksW_app (l x : List Mk) : marksW (l ++ x) = marksW l ++ marksW x := by simp [marksW]
theorem marksW_len (l : List Mk) : (marksW l).length = l.length * 4 := by
 induction l with
 | nil => rfl
 | cons a l ih => show (mkCells a ++ marksW l).length = _; rw [List.length_append, ih]; simp only [mkCells, List.length_cons, List.length_nil]; omega
/-- the marks of a text from a place on -/
def mk4 (t : List UInt8) : Nat → Nat → List Mk
 | 0, _ => []
 | n + 1, e => if e < t.length then (e, (dec (t.drop e)).2, (dec (t.drop e)).1, ((dec (t.drop e)).2 : Int) == 1 && ((dec (t.drop e)).1 : Int) == 65533) :: mk4 t n (e + (dec (t.drop e)).2) else []
def mk4s (t : List UInt8) : List Mk := mk4 t t.length 0
theorem mk4_len (t : List UInt8) : ∀ n e, (mk4 t n e).length ≤ n
 | 0, _ => Nat.le_refl _
 | n + 1, e => by
   unfold mk4
   split
   ·simp only [List.length_cons]; have := mk4_len t n (e + (dec (t.drop e)).2); omega
   ·exact Nat.zero_le _
theorem mark_info : (Tryz.prog.info? 71).map (fun i => (i.zero, i.size, i.bytes)) = some (some (.agg #[.int .i64 0, .int .i64 0, .int .i32 0, .bool false]), 4, 24) := by kernel_rfl
theorem mk_cells (w : World) (m : Mk) (ty : TypeId) : ∀ j u, (mkCells m)[j]? = some u → (w.alloc (.cells (mkCells m).toArray ty)).cell? ((⟨w.heap.size, 0, none⟩ : Addr).add j) = some u := by
 intro j u hu
 rw [add_none, Nat.zero_add, cell_of_row _ _ _ _ _ _ (heap_alloc_new w _), ← hu]
 simp
theorem mk_cell1 (m : Mk) : ∀ u ∈ mkCells m, u.oneCell' = true := by
 intro u hu
 simp [mkCells] at hu
 rcases hu with rfl | rfl | rfl | rfl <;> rfl
structure ML (W : World) (v : Value) (acc : List Mk) (w : World) : Prop where
 bel : Below W.heap.size W w
 own : w.ownsRow W.heap.size 71 4 v acc.length (marksW acc)
theorem ML.grown {W : World} {v v' : Value} {m : Nat} {acc : List Mk} {x : Mk} {w w' : World} {o : Obj} (h : ML W v acc w)
 (ho : w'.ownsRow W.heap.size 71 4 v' m (marksW acc ++ mkCells x)) (hg : (w.alloc o).grownBy w' v.ownBlock) : ML W v' (acc ++ [x]) w' := by
 have hown : (w.alloc o).ownsRow W.heap.size 71 4 v acc.length (marksW acc) := own_alloc h.own
 have hb : Below W.heap.size W (w.alloc o) := h.bel.alloc h.bel.size o
 have hm : m = acc.length + 1 := by
  have h1 := ho.1
  rw [List.length_append, marksW_len] at h1
  simp only [mkCells, List.length_cons, List.length_nil] at h1
  omega
 refine ⟨hb.grown hg hb.size (fun k hk => (own_lt hown hk).1), ?_⟩
 rw [marksW_app, List.length_append, ← show m = acc.length + [x].length from hm]
 have : marksW [x] = mkCells x := by simp [marksW]
 rw [this]
 exact ho
def MarksPost (t : List UInt8) (W : World) (e : Ending) (w' : World) : Prop := ∃ v, e = .returned v ∧ w'.ownsRow W.heap.size 71 4 v (mk4s t).length (marksW (mk4s t)) ∧ Below W.heap.size W w'
theorem LENM {m e n : Nat} (h1 : m ≤ e) (h2 : e ≤ n) (h3 : n ≤ 100000) : m + 1 ≤ maxLen ∧ (m + 1) * 24 ≤ 140737488355328 := ⟨by simp only [maxLen]; omega, by omega⟩
set_option maxRecDepth 100000 in
set_option maxHeartbeats 4000000 in
theorem Marks_ok (t : List UInt8) (W : World) (hn : t.length ≤ 100000) : Calls Tryz.prog 41 #[.string ⟨t.toArray⟩] W (MarksPost t W) := by
 obtain ⟨s, hs⟩ : ∃ s : ByteArray, (⟨t.toArray⟩ : ByteArray) = s := ⟨_, rfl⟩
 have hss : s.size = t.length := size_mk t s hs
 rw [hs]
 have HS := Lib.hid hs; have HSS := Lib.hid hss
 clear hs hss
 obtain ⟨i0, hI0, hz0, hz1, hz2⟩ := info_parts mark_info
 go_enter Tryz.func41, Tryz.ntmps41
 go_wp2
 go_loopw [3, 4] (fun vl vi wr => ∃ (e n m c : Nat) (A : Option Addr) (acc : List Mk), vi = .int .i64 e ∧ vl = .slice A m c ∧ acc.length = m ∧ ML W (.slice A m c) acc wr ∧ e ≤ t.length ∧ t.length < n + e + 1 ∧ m ≤ e ∧ acc ++ mk4 t n e = mk4s t) (fun _ vi _ => t.length - (RowKit.intOf vi).toNat)
 case atStart => exact ⟨0, t.length, 0, 0, none, [], rfl, rfl, rfl, ⟨Below.refl _ _, ⟨rfl, .inl ⟨rfl, rfl⟩⟩⟩, Nat.zero_le _, by omega, Nat.le_refl _, rfl⟩
 case round =>
  obtain ⟨e, n, m, c, A, acc, rfl, rfl, hm, hML, he, hne, hme, hl⟩ := hrel
  have HM := Lib.hid hML; clear hML
  have hss := HSS.out
  by_cases hlt : e < s.size
  ·have hlt2 : e < t.length := by omega
   obtain ⟨n', rfl⟩ : ∃ n', n = n' + 1 := ⟨n - 1, by omega⟩
   have hne2 : t.drop e ≠ [] := by intro c; rw [List.drop_eq_nil_iff] at c; omega
   have hd1 := dec_pos (t.drop e)
   have hd2 := dec_le (t.drop e) hne2
   rw [List.length_drop] at hd2
   unfold mk4 at hl
   rw [if_pos hlt2] at hl
   have HDE := Lib.hid (fun w => tDecode_ok (t.drop e) hne2 (by rw [List.length_drop]; omega) w)
   obtain ⟨r, hr⟩ : ∃ r, (dec (t.drop e)).1 = r := ⟨_, rfl⟩
   obtain ⟨wd, hwd⟩ : ∃ wd, (dec (t.drop e)).2 = wd := ⟨_, rfl⟩
   rw [hr, hwd] at HDE hl
   rw [hwd] at hd1 hd2
   obtain ⟨ew, hew⟩ : ∃ ew, e + wd = ew := ⟨_, rfl⟩
   rw [hew] at hl
   have hx1 := pc_ext t e s HS.out
   have hi0 : (0 : Int) ≤ e := Int.natCast_nonneg e
   have hi1 : (e : Int) ≤ s.size := Int.ofNat_le.2 (Nat.le_of_lt hlt)
   have hsa : ∀ W, (Instr.slice 9 (.string s) (some (.int .i64 (e : Int))) none none).run Tryz.prog W = .ok (.string ⟨(t.drop e).toArray⟩) W := fun W => by
    rw [run_slice_string_from_if _ _ _ _ _ Tryz.underlying9, if_pos ⟨hi0, hi1⟩, Int.toNat_natCast, hx1]
   have HLEN := Lib.hid (LENM hme he hn)
   obtain ⟨bd, hbd⟩ : ∃ bd, (((wd : Nat) : Int) == 1 && ((r : Nat) : Int) == 65533) = bd := ⟨_, rfl⟩
   rw [hbd] at hl
   obtain ⟨m1, hm1⟩ : ∃ m1, m + 1 = m1 := ⟨_, rfl⟩
   have KEY := Lib.hid (fun (A' : Option Addr) (c' : Nat) (w' : World) (h : ML W (.slice A' m1 c') (acc ++ [(e, wd, r, bd)]) w') =>
    show (∃ (e n m c : Nat) (A : Option Addr) (acc : List Mk), Value.int .i64 (ew : Int) = .int .i64 e ∧ Value.slice A' m1 c' = .slice A m c ∧ acc.length = m ∧ ML W (.slice A m c) acc w' ∧ e ≤ t.length ∧ t.length < n + e + 1 ∧ m ≤ e ∧ acc ++ mk4 t n e = mk4s t) ∧ t.length - (RowKit.intOf (.int .i64 (ew : Int))).toNat < t.length - (RowKit.intOf (.int .i64 (e : Int))).toNat from by
     refine ⟨⟨ew, n', m1, c', A', acc ++ [(e, wd, r, bd)], rfl, rfl, by rw [List.length_append, hm, ← hm1]; rfl, h, by omega, by omega, by omega, ?_⟩, by simp [RowKit.intOf]; omega⟩
     rw [← hl, List.append_assoc]; rfl)
   have HEW := Lib.hid (show (e : Int) + (wd : Int) = (ew : Int) by omega)
   have HBD := Lib.hid hbd
   have HMA := Lib.hid hm
   have HOWN := Lib.hid (show wr.ownsRow W.heap.size 71 4 (.slice A m c) m (marksW acc) by have := HM.out.own; rwa [hm] at this)
   have hwz : wd ≤ 4 := by rw [← hwd]; exact Folds.dec_le4 _
   have HWZ := Lib.hid (And.intro hwz hd1)
   clear hr hwd hbd hl hm hne hme hd1 hd2 hx1 hi0 hi1 hne2 hew hwz
   by_cases c1 : wd = 1
   ·subst c1
    go_wp2_with (first
     | (go_at_call 74; refine (HDE.out _).mono ?_; rintro x wz ⟨rfl, rfl⟩)
     | (at_builtin; (refine wpList_append_lies _ rfl (.tmp 18) (.tmp 29) 68 rfl W.heap.size 71 i0 _ 4 24 Tryz.underlying68 hI0 hz0 hz1 hz2 rfl (by decide) (.slice A m c) m (marksW acc) rfl (own_alloc HOWN.out) ⟨_, 0, none⟩ 1 1 (mkCells (e, 1, r, ((r : Nat) : Int) == 65533)) rfl rfl (mk_cells _ _ _) (mk_cell1 _) (by decide) HLEN.out.1 HLEN.out.2 (alloc_base HM.out.bel.size) _ rfl ?_); intro g cap wq ho hg hl hs))
    rw [show (e : Int) + 1 = (ew : Int) from HEW.out]
    have hb : (((r : Nat) : Int) == 65533) = bd := HBD.out
    rw [hb] at ho
    exact KEY.out _ _ _ (by rw [← hm1]; exact ML.grown HM.out ho hg)
   ·have c2 : (((wd : Nat) : Int) == 1) = false := by rw [beq_eq_false_iff_ne]; omega
    have hb : bd = false := by rw [← HBD.out, c2]; rfl
    go_wp2_with (first
     | (go_at_call 74; refine (HDE.out _).mono ?_; rintro x wz ⟨rfl, rfl⟩)
     | (at_builtin; (refine wpList_append_lies _ rfl (.tmp 18) (.tmp 29) 68 rfl W.heap.size 71 i0 _ 4 24 Tryz.underlying68 hI0 hz0 hz1 hz2 rfl (by decide) (.slice A m c) m (marksW acc) rfl (own_alloc HOWN.out) ⟨_, 0, none⟩ 1 1 (mkCells (e, wd, r, false)) rfl rfl (mk_cells _ _ _) (mk_cell1 _) (by decide) HLEN.out.1 HLEN.out.2 (alloc_base HM.out.bel.size) _ rfl ?_); intro g cap wq ho hg hl hs))
    rw [HEW.out, show wrap64 (ew : Int) = (ew : Int) by have := HEW.out; have := HWZ.out; have := HSS.out; unfold wrap64; omega]
    rw [hb] at KEY
    exact KEY.out _ _ _ (by rw [← hm1]; exact ML.grown HM.out ho hg)
  ·have hee : e = t.length := by omega
   have hz : mk4 t n e = [] := by
    subst hee
    cases n with
    | zero => rfl
    | succ n' => show (if t.length < t.length then _ else _) = _; rw [if_neg (Nat.lt_irrefl _)]
   rw [hz, List.append_nil] at hl
   have HL := Lib.hid hl; have HMA := Lib.hid hm
   clear hl hz hm hme hne he hee
   go_wp2
   go_ret
   refine ⟨_, rfl, ?_, HM.out.bel⟩
   rw [← HL.out]
   exact HM.out.own
end
end Go.Proofs.YtnfghboholehdaaGreatDoor.foldWrites
