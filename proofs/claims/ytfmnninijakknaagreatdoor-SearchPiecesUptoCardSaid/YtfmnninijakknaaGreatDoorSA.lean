/- utf8.FullRune, utf.Decode: what they compute. -/
import Derived.Test.YtfmnninijakknaaGreatDoorProg
import Derived.Shelf.Unicode.DecodeAny
import Derived.WalkKit
import Derived.Outline
import Derived.Deep.QuietTactic
import Derived.BigQuiet
import Derived.LoopTactic
import Derived.Test.YtfmnninijakknaaGreatDoorPA
namespace Go.Proofs.YtfmnninijakknaaGreatDoor.searchPieces
section
open Go.Shelf Go.RowKit Go.Lib
def Tryz.lays197_ren : Go.Shelf.Ren := ⟨fun | 197 => 55 | 260 => 83 | n => n, fun | 9 => 9 | 21 => 21 | 3 => 3 | 4 => 4 | 5 => 5 | 105 => 72 | 119 => 114 | 0 => 0 | 46 => 112 | 139 => 117 | 138 => 116 | n => n, fun | 3 => 0 | 4 => 1 | n => n⟩
theorem Tryz.lays197 : Go.Proofs.Lays.n197 Tryz.prog Tryz.lays197_ren := {
  mixed := by kernel_rfl
  f197 := Tryz.func55.trans (congrArg some (by kernel_rfl))
  f260 := Tryz.func83.trans (congrArg some (by kernel_rfl))
  t0 := Tryz.underlying0
  a0 := Tryz.isAgg0
  z0 := Tryz.sizeOf0
  v0 := Tryz.zeroValue0
  t3 := Tryz.underlying3
  a3 := Tryz.isAgg3
  z3 := Tryz.sizeOf3
  v3 := Tryz.zeroValue3
  t4 := Tryz.underlying4
  a4 := Tryz.isAgg4
  z4 := Tryz.sizeOf4
  v4 := Tryz.zeroValue4
  t5 := Tryz.underlying5
  a5 := Tryz.isAgg5
  z5 := Tryz.sizeOf5
  v5 := Tryz.zeroValue5
  t9 := Tryz.underlying9
  a9 := Tryz.isAgg9
  z9 := Tryz.sizeOf9
  v9 := Tryz.zeroValue9
  t21 := Tryz.underlying21
  a21 := Tryz.isAgg21
  z21 := Tryz.sizeOf21
  v21 := Tryz.zeroValue21
  t46 := Tryz.underlying112
  a46 := Tryz.isAgg112
  z46 := Tryz.sizeOf112
  v46 := Tryz.zeroValue112
  t105 := Tryz.underlying72
  a105 := Tryz.isAgg72
  z105 := Tryz.sizeOf72
  v105 := Tryz.zeroValue72
  t119 := Tryz.underlying114
  a119 := Tryz.isAgg114
  z119 := Tryz.sizeOf114
  t138 := Tryz.underlying116
  a138 := Tryz.isAgg116
  z138 := Tryz.sizeOf116
  v138 := Tryz.zeroValue116
  t139 := Tryz.underlying117
  a139 := Tryz.isAgg117
  z139 := Tryz.sizeOf117
  v139 := Tryz.zeroValue117
  g3 := by kernel_rfl
  g4 := by kernel_rfl }
theorem dec_any (s : ByteArray) (w : World) (hT : Lib.Utf8Tabs 0 1 w) :
    Calls Tryz.prog 55 #[.string s] w fun e w' => e = .returned (.tuple #[.int .i32 (Lib.decodeGo s).1, .int .i64 (Lib.decodeGo s).2]) ∧ Below w.heap.size w w' := Any.utf8_DecodeRuneInString Tryz.lays197 s w hT
theorem Decode_some (s : ByteArray) (w : World) (h0 : s.toList.isEmpty = false) (hT : Lib.Utf8Tabs 0 1 w) :
    Calls Tryz.prog 31 #[.string s] w fun e w' => e = .returned (.tuple #[.int .i32 (Lib.decodeGo s).1, .int .i64 (Lib.decodeGo s).2]) ∧ Below w.heap.size w w' := by
  have h1 : !s.toList.isEmpty := by rw [h0]; rfl
  go_enter Tryz.func31, Tryz.ntmps31
  go_wp2_with (go_at_call 55; refine (dec_any _ _ hT).mono ?_; rintro e w' ⟨rfl, hb⟩)
  go_ret2
  exact ⟨rfl, hb⟩
theorem Decode_none (s : ByteArray) (w : World) (h0 : s.toList.isEmpty = true) :
    Calls Tryz.prog 31 #[.string s] w fun e w' => e = .returned (.tuple #[.int .i32 0, .int .i64 0]) ∧ w' = w := by
  have h1 : (!s.toList.isEmpty) = false := by rw [h0]; rfl
  go_enter Tryz.func31, Tryz.ntmps31
  go_wp2
  go_ret2
  exact ⟨rfl, rfl⟩
/-- unicode/utf8.FullRune, of some bytes in a row -/
theorem Full_empty (a : Addr) (c : Nat) (w : World) :
    Calls Tryz.prog 33 #[.slice (some a) 0 c] w fun e w' => e = .returned (.bool false) ∧ w' = w := by
  go_enter Tryz.func33, Tryz.ntmps33
  go_wp2
  go_ret
  exact ⟨rfl, rfl⟩
theorem cell_lt {w : World} {b o : Nat} {v : Value} (h : w.cell? ⟨b, o, none⟩ = some v) : b < w.heap.size := by
  rcases Nat.lt_or_ge b w.heap.size with c | c
  · exact c
  · exfalso
    have : w.heap[b]? = none := Array.getElem?_eq_none c
    simp [World.cell?, this] at h
theorem cell_alloc {w : World} {b o : Nat} {v : Value} (h : w.cell? ⟨b, o, none⟩ = some v) (x : Obj) : (w.alloc x).cell? ⟨b, o, none⟩ = some v := by
  rw [((Below.refl w.heap.size w).alloc (Nat.le_refl _) x).cell (p := ⟨b, o, none⟩) (cell_lt h)]
  exact h
theorem below_drewN {B : Nat} {a w : World} (h : Below B a w) (n : Nat) : Below B a (w.drewN n) := ⟨h.os, h.tape, h.output, h.size, h.block⟩
def FullPost (r : Bool) (w : World) (e : Ending) (w' : World) : Prop := e = .returned (.bool r) ∧ Below w.heap.size w w'
theorem Full_yes240 (b off n c b0 : Nat) (w : World) (hn : 0 < n) (_ : 0 ≤ n) (hn2 : n ≤ 4000000) (h0 : w.cell? ⟨b, off, none⟩ = some (.int .u8 b0)) (hb0 : b0 < 256) (hx : w.cell? ⟨0, b0, none⟩ = some (.int .u8 240)) :
    Calls Tryz.prog 33 #[.slice (some ⟨b, off, none⟩) n c] w (FullPost true w) := by
  have hz : ((n : Int) == 0) = false := by simp; omega
  have hlt : (0 : Int) < n := by omega
  have hsz : (0 : Int) ≤ n := by omega
  go_enter Tryz.func33, Tryz.ntmps33
  go_wp2
  go_ret
  exact ⟨rfl, Below.refl _ _⟩
theorem Full_yes241 (b off n c b0 : Nat) (w : World) (hn : 0 < n) (_ : 1 ≤ n) (hn2 : n ≤ 4000000) (h0 : w.cell? ⟨b, off, none⟩ = some (.int .u8 b0)) (hb0 : b0 < 256) (hx : w.cell? ⟨0, b0, none⟩ = some (.int .u8 241)) :
    Calls Tryz.prog 33 #[.slice (some ⟨b, off, none⟩) n c] w (FullPost true w) := by
  have hz : ((n : Int) == 0) = false := by simp; omega
  have hlt : (0 : Int) < n := by omega
  have hsz : (1 : Int) ≤ n := by omega
  go_enter Tryz.func33, Tryz.ntmps33
  go_wp2
  go_ret
  exact ⟨rfl, Below.refl _ _⟩
theorem Full_yes2 (b off n c b0 : Nat) (w : World) (hn : 0 < n) (hs : 2 ≤ n) (hn2 : n ≤ 4000000) (h0 : w.cell? ⟨b, off, none⟩ = some (.int .u8 b0)) (hb0 : b0 < 256) (hx : w.cell? ⟨0, b0, none⟩ = some (.int .u8 2)) :
    Calls Tryz.prog 33 #[.slice (some ⟨b, off, none⟩) n c] w (FullPost true w) := by
  have hz : ((n : Int) == 0) = false := by simp; omega
  have hlt : (0 : Int) < n := by omega
  have hsz : (2 : Int) ≤ n := by omega
  go_enter Tryz.func33, Tryz.ntmps33
  go_wp2
  go_ret
  exact ⟨rfl, Below.refl _ _⟩
theorem Full_one2 (b off c b0 : Nat) (w : World) (h0 : w.cell? ⟨b, off, none⟩ = some (.int .u8 b0)) (hb0 : b0 < 256) (hx : w.cell? ⟨0, b0, none⟩ = some (.int .u8 2))
    (hlo : w.cell? ⟨1, 0, none⟩ = some (.int .u8 128)) (hhi : w.cell? ⟨1, 1, none⟩ = some (.int .u8 191)) : Calls Tryz.prog 33 #[.slice (some ⟨b, off, none⟩) 1 c] w (FullPost false w) := by
  go_enter Tryz.func33, Tryz.ntmps33
  go_wp2
  go_quiet (fail)
  go_wp2
  go_ret
  exact ⟨rfl, below_drewN ((Below.refl _ _).alloc (Nat.le_refl _) _) _⟩
theorem Full_yes19 (b off n c b0 : Nat) (w : World) (hn : 0 < n) (hs : 3 ≤ n) (hn2 : n ≤ 4000000) (h0 : w.cell? ⟨b, off, none⟩ = some (.int .u8 b0)) (hb0 : b0 < 256) (hx : w.cell? ⟨0, b0, none⟩ = some (.int .u8 19)) :
    Calls Tryz.prog 33 #[.slice (some ⟨b, off, none⟩) n c] w (FullPost true w) := by
  have hz : ((n : Int) == 0) = false := by simp; omega
  have hlt : (0 : Int) < n := by omega
  have hsz : (3 : Int) ≤ n := by omega
  go_enter Tryz.func33, Tryz.ntmps33
  go_wp2
  go_ret
  exact ⟨rfl, Below.refl _ _⟩
theorem Full_one19 (b off c b0 : Nat) (w : World) (h0 : w.cell? ⟨b, off, none⟩ = some (.int .u8 b0)) (hb0 : b0 < 256) (hx : w.cell? ⟨0, b0, none⟩ = some (.int .u8 19))
    (hlo : w.cell? ⟨1, 2, none⟩ = some (.int .u8 160)) (hhi : w.cell? ⟨1, 3, none⟩ = some (.int .u8 191)) : Calls Tryz.prog 33 #[.slice (some ⟨b, off, none⟩) 1 c] w (FullPost false w) := by
  go_enter Tryz.func33, Tryz.ntmps33
  go_wp2
  go_quiet (fail)
  go_wp2
  go_ret
  exact ⟨rfl, below_drewN ((Below.refl _ _).alloc (Nat.le_refl _) _) _⟩
set_option maxRecDepth 100000 in
theorem Full_two_low19 (b off n c b0 b1 : Nat) (w : World) (hn : 1 < n) (hn2 : n < 3) (h0 : w.cell? ⟨b, off, none⟩ = some (.int .u8 b0)) (hb0 : b0 < 256) (hx : w.cell? ⟨0, b0, none⟩ = some (.int .u8 19)) (h1 : w.cell? ⟨b, off + 1, none⟩ = some (.int .u8 b1))
    (hlo : w.cell? ⟨1, 2, none⟩ = some (.int .u8 160)) (hhi : w.cell? ⟨1, 3, none⟩ = some (.int .u8 191)) (hb : (b1 : Int) < 160) : Calls Tryz.prog 33 #[.slice (some ⟨b, off, none⟩) n c] w (FullPost true w) := by
  have hz : ((n : Int) == 0) = false := by simp; omega
  have hlt : (0 : Int) < n := by omega
  have hlt1 : (1 : Int) < n := by omega
  have hsz : ¬ (3 : Int) ≤ n := by omega
  have h1a := cell_alloc h1 (.cells #[.int .u8 160, .int .u8 191] 116)
  go_enter Tryz.func33, Tryz.ntmps33
  go_wp2
  go_quiet (fail)
  go_wp2
  go_ret
  exact ⟨rfl, below_drewN ((Below.refl _ _).alloc (Nat.le_refl _) _) _⟩
set_option maxRecDepth 100000 in
theorem Full_two_high19 (b off n c b0 b1 : Nat) (w : World) (hn : 1 < n) (hn2 : n < 3) (h0 : w.cell? ⟨b, off, none⟩ = some (.int .u8 b0)) (hb0 : b0 < 256) (hx : w.cell? ⟨0, b0, none⟩ = some (.int .u8 19)) (h1 : w.cell? ⟨b, off + 1, none⟩ = some (.int .u8 b1))
    (hlo : w.cell? ⟨1, 2, none⟩ = some (.int .u8 160)) (hhi : w.cell? ⟨1, 3, none⟩ = some (.int .u8 191)) (hb : ¬ (b1 : Int) < 160) (hb' : (191 : Int) < b1) : Calls Tryz.prog 33 #[.slice (some ⟨b, off, none⟩) n c] w (FullPost true w) := by
  have hz : ((n : Int) == 0) = false := by simp; omega
  have hlt : (0 : Int) < n := by omega
  have hlt1 : (1 : Int) < n := by omega
  have hsz : ¬ (3 : Int) ≤ n := by omega
  have h1a := cell_alloc h1 (.cells #[.int .u8 160, .int .u8 191] 116)
  go_enter Tryz.func33, Tryz.ntmps33
  go_wp2
  go_quiet (fail)
  go_wp2
  go_ret
  exact ⟨rfl, below_drewN ((Below.refl _ _).alloc (Nat.le_refl _) _) _⟩
set_option maxRecDepth 100000 in
theorem Full_two_ok19 (b off c b0 b1 : Nat) (w : World) (h0 : w.cell? ⟨b, off, none⟩ = some (.int .u8 b0)) (hb0 : b0 < 256) (hx : w.cell? ⟨0, b0, none⟩ = some (.int .u8 19)) (h1 : w.cell? ⟨b, off + 1, none⟩ = some (.int .u8 b1))
    (hlo : w.cell? ⟨1, 2, none⟩ = some (.int .u8 160)) (hhi : w.cell? ⟨1, 3, none⟩ = some (.int .u8 191)) (hb : ¬ (b1 : Int) < 160) (hb' : ¬ (191 : Int) < b1) : Calls Tryz.prog 33 #[.slice (some ⟨b, off, none⟩) 2 c] w (FullPost false w) := by
  have h1a := cell_alloc h1 (.cells #[.int .u8 160, .int .u8 191] 116)
  go_enter Tryz.func33, Tryz.ntmps33
  go_wp2
  go_quiet (fail)
  go_wp2
  go_ret
  exact ⟨rfl, below_drewN ((Below.refl _ _).alloc (Nat.le_refl _) _) _⟩
theorem Full_yes3 (b off n c b0 : Nat) (w : World) (hn : 0 < n) (hs : 3 ≤ n) (hn2 : n ≤ 4000000) (h0 : w.cell? ⟨b, off, none⟩ = some (.int .u8 b0)) (hb0 : b0 < 256) (hx : w.cell? ⟨0, b0, none⟩ = some (.int .u8 3)) :
    Calls Tryz.prog 33 #[.slice (some ⟨b, off, none⟩) n c] w (FullPost true w) := by
  have hz : ((n : Int) == 0) = false := by simp; omega
  have hlt : (0 : Int) < n := by omega
  have hsz : (3 : Int) ≤ n := by omega
  go_enter Tryz.func33, Tryz.ntmps33
  go_wp2
  go_ret
  exact ⟨rfl, Below.refl _ _⟩
theorem Full_one3 (b off c b0 : Nat) (w : World) (h0 : w.cell? ⟨b, off, none⟩ = some (.int .u8 b0)) (hb0 : b0 < 256) (hx : w.cell? ⟨0, b0, none⟩ = some (.int .u8 3))
    (hlo : w.cell? ⟨1, 0, none⟩ = some (.int .u8 128)) (hhi : w.cell? ⟨1, 1, none⟩ = some (.int .u8 191)) : Calls Tryz.prog 33 #[.slice (some ⟨b, off, none⟩) 1 c] w (FullPost false w) := by
  go_enter Tryz.func33, Tryz.ntmps33
  go_wp2
  go_quiet (fail)
  go_wp2
  go_ret
  exact ⟨rfl, below_drewN ((Below.refl _ _).alloc (Nat.le_refl _) _) _⟩
set_option maxRecDepth 100000 in
theorem Full_two_low3 (b off n c b0 b1 : Nat) (w : World) (hn : 1 < n) (hn2 : n < 3) (h0 : w.cell? ⟨b, off, none⟩ = some (.int .u8 b0)) (hb0 : b0 < 256) (hx : w.cell? ⟨0, b0, none⟩ = some (.int .u8 3)) (h1 : w.cell? ⟨b, off + 1, none⟩ = some (.int .u8 b1))
    (hlo : w.cell? ⟨1, 0, none⟩ = some (.int .u8 128)) (hhi : w.cell? ⟨1, 1, none⟩ = some (.int .u8 191)) (hb : (b1 : Int) < 128) : Calls Tryz.prog 33 #[.slice (some ⟨b, off, none⟩) n c] w (FullPost true w) := by
  have hz : ((n : Int) == 0) = false := by simp; omega
  have hlt : (0 : Int) < n := by omega
  have hlt1 : (1 : Int) < n := by omega
  have hsz : ¬ (3 : Int) ≤ n := by omega
  have h1a := cell_alloc h1 (.cells #[.int .u8 128, .int .u8 191] 116)
  go_enter Tryz.func33, Tryz.ntmps33
  go_wp2
  go_quiet (fail)
  go_wp2
  go_ret
  exact ⟨rfl, below_drewN ((Below.refl _ _).alloc (Nat.le_refl _) _) _⟩
set_option maxRecDepth 100000 in
theorem Full_two_high3 (b off n c b0 b1 : Nat) (w : World) (hn : 1 < n) (hn2 : n < 3) (h0 : w.cell? ⟨b, off, none⟩ = some (.int .u8 b0)) (hb0 : b0 < 256) (hx : w.cell? ⟨0, b0, none⟩ = some (.int .u8 3)) (h1 : w.cell? ⟨b, off + 1, none⟩ = some (.int .u8 b1))
    (hlo : w.cell? ⟨1, 0, none⟩ = some (.int .u8 128)) (hhi : w.cell? ⟨1, 1, none⟩ = some (.int .u8 191)) (hb : ¬ (b1 : Int) < 128) (hb' : (191 : Int) < b1) : Calls Tryz.prog 33 #[.slice (some ⟨b, off, none⟩) n c] w (FullPost true w) := by
  have hz : ((n : Int) == 0) = false := by simp; omega
  have hlt : (0 : Int) < n := by omega
  have hlt1 : (1 : Int) < n := by omega
  have hsz : ¬ (3 : Int) ≤ n := by omega
  have h1a := cell_alloc h1 (.cells #[.int .u8 128, .int .u8 191] 116)
  go_enter Tryz.func33, Tryz.ntmps33
  go_wp2
  go_quiet (fail)
  go_wp2
  go_ret
  exact ⟨rfl, below_drewN ((Below.refl _ _).alloc (Nat.le_refl _) _) _⟩
set_option maxRecDepth 100000 in
theorem Full_two_ok3 (b off c b0 b1 : Nat) (w : World) (h0 : w.cell? ⟨b, off, none⟩ = some (.int .u8 b0)) (hb0 : b0 < 256) (hx : w.cell? ⟨0, b0, none⟩ = some (.int .u8 3)) (h1 : w.cell? ⟨b, off + 1, none⟩ = some (.int .u8 b1))
    (hlo : w.cell? ⟨1, 0, none⟩ = some (.int .u8 128)) (hhi : w.cell? ⟨1, 1, none⟩ = some (.int .u8 191)) (hb : ¬ (b1 : Int) < 128) (hb' : ¬ (191 : Int) < b1) : Calls Tryz.prog 33 #[.slice (some ⟨b, off, none⟩) 2 c] w (FullPost false w) := by
  have h1a := cell_alloc h1 (.cells #[.int .u8 128, .int .u8 191] 116)
  go_enter Tryz.func33, Tryz.ntmps33
  go_wp2
  go_quiet (fail)
  go_wp2
  go_ret
  exact ⟨rfl, below_drewN ((Below.refl _ _).alloc (Nat.le_refl _) _) _⟩
theorem Full_yes35 (b off n c b0 : Nat) (w : World) (hn : 0 < n) (hs : 3 ≤ n) (hn2 : n ≤ 4000000) (h0 : w.cell? ⟨b, off, none⟩ = some (.int .u8 b0)) (hb0 : b0 < 256) (hx : w.cell? ⟨0, b0, none⟩ = some (.int .u8 35)) :
    Calls Tryz.prog 33 #[.slice (some ⟨b, off, none⟩) n c] w (FullPost true w) := by
  have hz : ((n : Int) == 0) = false := by simp; omega
  have hlt : (0 : Int) < n := by omega
  have hsz : (3 : Int) ≤ n := by omega
  go_enter Tryz.func33, Tryz.ntmps33
  go_wp2
  go_ret
  exact ⟨rfl, Below.refl _ _⟩
theorem Full_one35 (b off c b0 : Nat) (w : World) (h0 : w.cell? ⟨b, off, none⟩ = some (.int .u8 b0)) (hb0 : b0 < 256) (hx : w.cell? ⟨0, b0, none⟩ = some (.int .u8 35))
    (hlo : w.cell? ⟨1, 4, none⟩ = some (.int .u8 128)) (hhi : w.cell? ⟨1, 5, none⟩ = some (.int .u8 159)) : Calls Tryz.prog 33 #[.slice (some ⟨b, off, none⟩) 1 c] w (FullPost false w) := by
  go_enter Tryz.func33, Tryz.ntmps33
  go_wp2
  go_quiet (fail)
  go_wp2
  go_ret
  exact ⟨rfl, below_drewN ((Below.refl _ _).alloc (Nat.le_refl _) _) _⟩
set_option maxRecDepth 100000 in
theorem Full_two_low35 (b off n c b0 b1 : Nat) (w : World) (hn : 1 < n) (hn2 : n < 3) (h0 : w.cell? ⟨b, off, none⟩ = some (.int .u8 b0)) (hb0 : b0 < 256) (hx : w.cell? ⟨0, b0, none⟩ = some (.int .u8 35)) (h1 : w.cell? ⟨b, off + 1, none⟩ = some (.int .u8 b1))
    (hlo : w.cell? ⟨1, 4, none⟩ = some (.int .u8 128)) (hhi : w.cell? ⟨1, 5, none⟩ = some (.int .u8 159)) (hb : (b1 : Int) < 128) : Calls Tryz.prog 33 #[.slice (some ⟨b, off, none⟩) n c] w (FullPost true w) := by
  have hz : ((n : Int) == 0) = false := by simp; omega
  have hlt : (0 : Int) < n := by omega
  have hlt1 : (1 : Int) < n := by omega
  have hsz : ¬ (3 : Int) ≤ n := by omega
  have h1a := cell_alloc h1 (.cells #[.int .u8 128, .int .u8 159] 116)
  go_enter Tryz.func33, Tryz.ntmps33
  go_wp2
  go_quiet (fail)
  go_wp2
  go_ret
  exact ⟨rfl, below_drewN ((Below.refl _ _).alloc (Nat.le_refl _) _) _⟩
set_option maxRecDepth 100000 in
theorem Full_two_high35 (b off n c b0 b1 : Nat) (w : World) (hn : 1 < n) (hn2 : n < 3) (h0 : w.cell? ⟨b, off, none⟩ = some (.int .u8 b0)) (hb0 : b0 < 256) (hx : w.cell? ⟨0, b0, none⟩ = some (.int .u8 35)) (h1 : w.cell? ⟨b, off + 1, none⟩ = some (.int .u8 b1))
    (hlo : w.cell? ⟨1, 4, none⟩ = some (.int .u8 128)) (hhi : w.cell? ⟨1, 5, none⟩ = some (.int .u8 159)) (hb : ¬ (b1 : Int) < 128) (hb' : (159 : Int) < b1) : Calls Tryz.prog 33 #[.slice (some ⟨b, off, none⟩) n c] w (FullPost true w) := by
  have hz : ((n : Int) == 0) = false := by simp; omega
  have hlt : (0 : Int) < n := by omega
  have hlt1 : (1 : Int) < n := by omega
  have hsz : ¬ (3 : Int) ≤ n := by omega
  have h1a := cell_alloc h1 (.cells #[.int .u8 128, .int .u8 159] 116)
  go_enter Tryz.func33, Tryz.ntmps33
  go_wp2
  go_quiet (fail)
  go_wp2
  go_ret
  exact ⟨rfl, below_drewN ((Below.refl _ _).alloc (Nat.le_refl _) _) _⟩
set_option maxRecDepth 100000 in
theorem Full_two_ok35 (b off c b0 b1 : Nat) (w : World) (h0 : w.cell? ⟨b, off, none⟩ = some (.int .u8 b0)) (hb0 : b0 < 256) (hx : w.cell? ⟨0, b0, none⟩ = some (.int .u8 35)) (h1 : w.cell? ⟨b, off + 1, none⟩ = some (.int .u8 b1))
    (hlo : w.cell? ⟨1, 4, none⟩ = some (.int .u8 128)) (hhi : w.cell? ⟨1, 5, none⟩ = some (.int .u8 159)) (hb : ¬ (b1 : Int) < 128) (hb' : ¬ (159 : Int) < b1) : Calls Tryz.prog 33 #[.slice (some ⟨b, off, none⟩) 2 c] w (FullPost false w) := by
  have h1a := cell_alloc h1 (.cells #[.int .u8 128, .int .u8 159] 116)
  go_enter Tryz.func33, Tryz.ntmps33
  go_wp2
  go_quiet (fail)
  go_wp2
  go_ret
  exact ⟨rfl, below_drewN ((Below.refl _ _).alloc (Nat.le_refl _) _) _⟩
theorem Full_yes52 (b off n c b0 : Nat) (w : World) (hn : 0 < n) (hs : 4 ≤ n) (hn2 : n ≤ 4000000) (h0 : w.cell? ⟨b, off, none⟩ = some (.int .u8 b0)) (hb0 : b0 < 256) (hx : w.cell? ⟨0, b0, none⟩ = some (.int .u8 52)) :
    Calls Tryz.prog 33 #[.slice (some ⟨b, off, none⟩) n c] w (FullPost true w) := by
  have hz : ((n : Int) == 0) = false := by simp; omega
  have hlt : (0 : Int) < n := by omega
  have hsz : (4 : Int) ≤ n := by omega
  go_enter Tryz.func33, Tryz.ntmps33
  go_wp2
  go_ret
  exact ⟨rfl, Below.refl _ _⟩
theorem Full_one52 (b off c b0 : Nat) (w : World) (h0 : w.cell? ⟨b, off, none⟩ = some (.int .u8 b0)) (hb0 : b0 < 256) (hx : w.cell? ⟨0, b0, none⟩ = some (.int .u8 52))
    (hlo : w.cell? ⟨1, 6, none⟩ = some (.int .u8 144)) (hhi : w.cell? ⟨1, 7, none⟩ = some (.int .u8 191)) : Calls Tryz.prog 33 #[.slice (some ⟨b, off, none⟩) 1 c] w (FullPost false w) := by
  go_enter Tryz.func33, Tryz.ntmps33
  go_wp2
  go_quiet (fail)
  go_wp2
  go_ret
  exact ⟨rfl, below_drewN ((Below.refl _ _).alloc (Nat.le_refl _) _) _⟩
set_option maxRecDepth 100000 in
theorem Full_two_low52 (b off n c b0 b1 : Nat) (w : World) (hn : 1 < n) (hn2 : n < 4) (h0 : w.cell? ⟨b, off, none⟩ = some (.int .u8 b0)) (hb0 : b0 < 256) (hx : w.cell? ⟨0, b0, none⟩ = some (.int .u8 52)) (h1 : w.cell? ⟨b, off + 1, none⟩ = some (.int .u8 b1))
    (hlo : w.cell? ⟨1, 6, none⟩ = some (.int .u8 144)) (hhi : w.cell? ⟨1, 7, none⟩ = some (.int .u8 191)) (hb : (b1 : Int) < 144) : Calls Tryz.prog 33 #[.slice (some ⟨b, off, none⟩) n c] w (FullPost true w) := by
  have hz : ((n : Int) == 0) = false := by simp; omega
  have hlt : (0 : Int) < n := by omega
  have hlt1 : (1 : Int) < n := by omega
  have hsz : ¬ (4 : Int) ≤ n := by omega
  have h1a := cell_alloc h1 (.cells #[.int .u8 144, .int .u8 191] 116)
  go_enter Tryz.func33, Tryz.ntmps33
  go_wp2
  go_quiet (fail)
  go_wp2
  go_ret
  exact ⟨rfl, below_drewN ((Below.refl _ _).alloc (Nat.le_refl _) _) _⟩
set_option maxRecDepth 100000 in
theorem Full_two_high52 (b off n c b0 b1 : Nat) (w : World) (hn : 1 < n) (hn2 : n < 4) (h0 : w.cell? ⟨b, off, none⟩ = some (.int .u8 b0)) (hb0 : b0 < 256) (hx : w.cell? ⟨0, b0, none⟩ = some (.int .u8 52)) (h1 : w.cell? ⟨b, off + 1, none⟩ = some (.int .u8 b1))
    (hlo : w.cell? ⟨1, 6, none⟩ = some (.int .u8 144)) (hhi : w.cell? ⟨1, 7, none⟩ = some (.int .u8 191)) (hb : ¬ (b1 : Int) < 144) (hb' : (191 : Int) < b1) : Calls Tryz.prog 33 #[.slice (some ⟨b, off, none⟩) n c] w (FullPost true w) := by
  have hz : ((n : Int) == 0) = false := by simp; omega
  have hlt : (0 : Int) < n := by omega
  have hlt1 : (1 : Int) < n := by omega
  have hsz : ¬ (4 : Int) ≤ n := by omega
  have h1a := cell_alloc h1 (.cells #[.int .u8 144, .int .u8 191] 116)
  go_enter Tryz.func33, Tryz.ntmps33
  go_wp2
  go_quiet (fail)
  go_wp2
  go_ret
  exact ⟨rfl, below_drewN ((Below.refl _ _).alloc (Nat.le_refl _) _) _⟩
set_option maxRecDepth 100000 in
theorem Full_two_ok52 (b off c b0 b1 : Nat) (w : World) (h0 : w.cell? ⟨b, off, none⟩ = some (.int .u8 b0)) (hb0 : b0 < 256) (hx : w.cell? ⟨0, b0, none⟩ = some (.int .u8 52)) (h1 : w.cell? ⟨b, off + 1, none⟩ = some (.int .u8 b1))
    (hlo : w.cell? ⟨1, 6, none⟩ = some (.int .u8 144)) (hhi : w.cell? ⟨1, 7, none⟩ = some (.int .u8 191)) (hb : ¬ (b1 : Int) < 144) (hb' : ¬ (191 : Int) < b1) : Calls Tryz.prog 33 #[.slice (some ⟨b, off, none⟩) 2 c] w (FullPost false w) := by
  have h1a := cell_alloc h1 (.cells #[.int .u8 144, .int .u8 191] 116)
  go_enter Tryz.func33, Tryz.ntmps33
  go_wp2
  go_quiet (fail)
  go_wp2
  go_ret
  exact ⟨rfl, below_drewN ((Below.refl _ _).alloc (Nat.le_refl _) _) _⟩
set_option maxRecDepth 100000 in
theorem Full_three_low52 (b off c b0 b1 b2 : Nat) (w : World) (h0 : w.cell? ⟨b, off, none⟩ = some (.int .u8 b0)) (hb0 : b0 < 256) (hx : w.cell? ⟨0, b0, none⟩ = some (.int .u8 52)) (h1 : w.cell? ⟨b, off + 1, none⟩ = some (.int .u8 b1)) (h2 : w.cell? ⟨b, off + 2, none⟩ = some (.int .u8 b2))
    (hlo : w.cell? ⟨1, 6, none⟩ = some (.int .u8 144)) (hhi : w.cell? ⟨1, 7, none⟩ = some (.int .u8 191)) (hb : ¬ (b1 : Int) < 144) (hb' : ¬ (191 : Int) < b1) (hc : (b2 : Int) < 128) : Calls Tryz.prog 33 #[.slice (some ⟨b, off, none⟩) 3 c] w (FullPost true w) := by
  have h1a := cell_alloc h1 (.cells #[.int .u8 144, .int .u8 191] 116)
  have h2a := cell_alloc h2 (.cells #[.int .u8 144, .int .u8 191] 116)
  go_enter Tryz.func33, Tryz.ntmps33
  go_wp2
  go_quiet (fail)
  all_goals (try (go_quiet (fail)))
  go_wp2
  go_ret
  exact ⟨rfl, below_drewN ((Below.refl _ _).alloc (Nat.le_refl _) _) _⟩
set_option maxRecDepth 100000 in
theorem Full_three_high52 (b off c b0 b1 b2 : Nat) (w : World) (h0 : w.cell? ⟨b, off, none⟩ = some (.int .u8 b0)) (hb0 : b0 < 256) (hx : w.cell? ⟨0, b0, none⟩ = some (.int .u8 52)) (h1 : w.cell? ⟨b, off + 1, none⟩ = some (.int .u8 b1)) (h2 : w.cell? ⟨b, off + 2, none⟩ = some (.int .u8 b2))
    (hlo : w.cell? ⟨1, 6, none⟩ = some (.int .u8 144)) (hhi : w.cell? ⟨1, 7, none⟩ = some (.int .u8 191)) (hb : ¬ (b1 : Int) < 144) (hb' : ¬ (191 : Int) < b1) (hc : ¬ (b2 : Int) < 128) (hc2 : (191 : Int) < b2) : Calls Tryz.prog 33 #[.slice (some ⟨b, off, none⟩) 3 c] w (FullPost true w) := by
  have h1a := cell_alloc h1 (.cells #[.int .u8 144, .int .u8 191] 116)
  have h2a := cell_alloc h2 (.cells #[.int .u8 144, .int .u8 191] 116)
  go_enter Tryz.func33, Tryz.ntmps33
  go_wp2
  go_quiet (fail)
  all_goals (try (go_quiet (fail)))
  go_wp2
  go_ret
  exact ⟨rfl, below_drewN ((Below.refl _ _).alloc (Nat.le_refl _) _) _⟩
set_option maxRecDepth 100000 in
theorem Full_three_ok52 (b off c b0 b1 b2 : Nat) (w : World) (h0 : w.cell? ⟨b, off, none⟩ = some (.int .u8 b0)) (hb0 : b0 < 256) (hx : w.cell? ⟨0, b0, none⟩ = some (.int .u8 52)) (h1 : w.cell? ⟨b, off + 1, none⟩ = some (.int .u8 b1)) (h2 : w.cell? ⟨b, off + 2, none⟩ = some (.int .u8 b2))
    (hlo : w.cell? ⟨1, 6, none⟩ = some (.int .u8 144)) (hhi : w.cell? ⟨1, 7, none⟩ = some (.int .u8 191)) (hb : ¬ (b1 : Int) < 144) (hb' : ¬ (191 : Int) < b1) (hc : ¬ (b2 : Int) < 128) (hc2 : ¬ (191 : Int) < b2) : Calls Tryz.prog 33 #[.slice (some ⟨b, off, none⟩) 3 c] w (FullPost false w) := by
  have h1a := cell_alloc h1 (.cells #[.int .u8 144, .int .u8 191] 116)
  have h2a := cell_alloc h2 (.cells #[.int .u8 144, .int .u8 191] 116)
  go_enter Tryz.func33, Tryz.ntmps33
  go_wp2
  go_quiet (fail)
  all_goals (try (go_quiet (fail)))
  go_wp2
  go_ret
  exact ⟨rfl, below_drewN ((Below.refl _ _).alloc (Nat.le_refl _) _) _⟩
theorem Full_yes4 (b off n c b0 : Nat) (w : World) (hn : 0 < n) (hs : 4 ≤ n) (hn2 : n ≤ 4000000) (h0 : w.cell? ⟨b, off, none⟩ = some (.int .u8 b0)) (hb0 : b0 < 256) (hx : w.cell? ⟨0, b0, none⟩ = some (.int .u8 4)) :
    Calls Tryz.prog 33 #[.slice (some ⟨b, off, none⟩) n c] w (FullPost true w) := by
  have hz : ((n : Int) == 0) = false := by simp; omega
  have hlt : (0 : Int) < n := by omega
  have hsz : (4 : Int) ≤ n := by omega
  go_enter Tryz.func33, Tryz.ntmps33
  go_wp2
  go_ret
  exact ⟨rfl, Below.refl _ _⟩
theorem Full_one4 (b off c b0 : Nat) (w : World) (h0 : w.cell? ⟨b, off, none⟩ = some (.int .u8 b0)) (hb0 : b0 < 256) (hx : w.cell? ⟨0, b0, none⟩ = some (.int .u8 4))
    (hlo : w.cell? ⟨1, 0, none⟩ = some (.int .u8 128)) (hhi : w.cell? ⟨1, 1, none⟩ = some (.int .u8 191)) : Calls Tryz.prog 33 #[.slice (some ⟨b, off, none⟩) 1 c] w (FullPost false w) := by
  go_enter Tryz.func33, Tryz.ntmps33
  go_wp2
  go_quiet (fail)
  go_wp2
  go_ret
  exact ⟨rfl, below_drewN ((Below.refl _ _).alloc (Nat.le_refl _) _) _⟩
set_option maxRecDepth 100000 in
theorem Full_two_low4 (b off n c b0 b1 : Nat) (w : World) (hn : 1 < n) (hn2 : n < 4) (h0 : w.cell? ⟨b, off, none⟩ = some (.int .u8 b0)) (hb0 : b0 < 256) (hx : w.cell? ⟨0, b0, none⟩ = some (.int .u8 4)) (h1 : w.cell? ⟨b, off + 1, none⟩ = some (.int .u8 b1))
    (hlo : w.cell? ⟨1, 0, none⟩ = some (.int .u8 128)) (hhi : w.cell? ⟨1, 1, none⟩ = some (.int .u8 191)) (hb : (b1 : Int) < 128) : Calls Tryz.prog 33 #[.slice (some ⟨b, off, none⟩) n c] w (FullPost true w) := by
  have hz : ((n : Int) == 0) = false := by simp; omega
  have hlt : (0 : Int) < n := by omega
  have hlt1 : (1 : Int) < n := by omega
  have hsz : ¬ (4 : Int) ≤ n := by omega
  have h1a := cell_alloc h1 (.cells #[.int .u8 128, .int .u8 191] 116)
  go_enter Tryz.func33, Tryz.ntmps33
  go_wp2
  go_quiet (fail)
  go_wp2
  go_ret
  exact ⟨rfl, below_drewN ((Below.refl _ _).alloc (Nat.le_refl _) _) _⟩
set_option maxRecDepth 100000 in
theorem Full_two_high4 (b off n c b0 b1 : Nat) (w : World) (hn : 1 < n) (hn2 : n < 4) (h0 : w.cell? ⟨b, off, none⟩ = some (.int .u8 b0)) (hb0 : b0 < 256) (hx : w.cell? ⟨0, b0, none⟩ = some (.int .u8 4)) (h1 : w.cell? ⟨b, off + 1, none⟩ = some (.int .u8 b1))
    (hlo : w.cell? ⟨1, 0, none⟩ = some (.int .u8 128)) (hhi : w.cell? ⟨1, 1, none⟩ = some (.int .u8 191)) (hb : ¬ (b1 : Int) < 128) (hb' : (191 : Int) < b1) : Calls Tryz.prog 33 #[.slice (some ⟨b, off, none⟩) n c] w (FullPost true w) := by
  have hz : ((n : Int) == 0) = false := by simp; omega
  have hlt : (0 : Int) < n := by omega
  have hlt1 : (1 : Int) < n := by omega
  have hsz : ¬ (4 : Int) ≤ n := by omega
  have h1a := cell_alloc h1 (.cells #[.int .u8 128, .int .u8 191] 116)
  go_enter Tryz.func33, Tryz.ntmps33
  go_wp2
  go_quiet (fail)
  go_wp2
  go_ret
  exact ⟨rfl, below_drewN ((Below.refl _ _).alloc (Nat.le_refl _) _) _⟩
set_option maxRecDepth 100000 in
theorem Full_two_ok4 (b off c b0 b1 : Nat) (w : World) (h0 : w.cell? ⟨b, off, none⟩ = some (.int .u8 b0)) (hb0 : b0 < 256) (hx : w.cell? ⟨0, b0, none⟩ = some (.int .u8 4)) (h1 : w.cell? ⟨b, off + 1, none⟩ = some (.int .u8 b1))
    (hlo : w.cell? ⟨1, 0, none⟩ = some (.int .u8 128)) (hhi : w.cell? ⟨1, 1, none⟩ = some (.int .u8 191)) (hb : ¬ (b1 : Int) < 128) (hb' : ¬ (191 : Int) < b1) : Calls Tryz.prog 33 #[.slice (some ⟨b, off, none⟩) 2 c] w (FullPost false w) := by
  have h1a := cell_alloc h1 (.cells #[.int .u8 128, .int .u8 191] 116)
  go_enter Tryz.func33, Tryz.ntmps33
  go_wp2
  go_quiet (fail)
  go_wp2
  go_ret
  exact ⟨rfl, below_drewN ((Below.refl _ _).alloc (Nat.le_refl _) _) _⟩
set_option maxRecDepth 100000 in
theorem Full_three_low4 (b off c b0 b1 b2 : Nat) (w : World) (h0 : w.cell? ⟨b, off, none⟩ = some (.int .u8 b0)) (hb0 : b0 < 256) (hx : w.cell? ⟨0, b0, none⟩ = some (.int .u8 4)) (h1 : w.cell? ⟨b, off + 1, none⟩ = some (.int .u8 b1)) (h2 : w.cell? ⟨b, off + 2, none⟩ = some (.int .u8 b2))
    (hlo : w.cell? ⟨1, 0, none⟩ = some (.int .u8 128)) (hhi : w.cell? ⟨1, 1, none⟩ = some (.int .u8 191)) (hb : ¬ (b1 : Int) < 128) (hb' : ¬ (191 : Int) < b1) (hc : (b2 : Int) < 128) : Calls Tryz.prog 33 #[.slice (some ⟨b, off, none⟩) 3 c] w (FullPost true w) := by
  have h1a := cell_alloc h1 (.cells #[.int .u8 128, .int .u8 191] 116)
  have h2a := cell_alloc h2 (.cells #[.int .u8 128, .int .u8 191] 116)
  go_enter Tryz.func33, Tryz.ntmps33
  go_wp2
  go_quiet (fail)
  all_goals (try (go_quiet (fail)))
  go_wp2
  go_ret
  exact ⟨rfl, below_drewN ((Below.refl _ _).alloc (Nat.le_refl _) _) _⟩
set_option maxRecDepth 100000 in
theorem Full_three_high4 (b off c b0 b1 b2 : Nat) (w : World) (h0 : w.cell? ⟨b, off, none⟩ = some (.int .u8 b0)) (hb0 : b0 < 256) (hx : w.cell? ⟨0, b0, none⟩ = some (.int .u8 4)) (h1 : w.cell? ⟨b, off + 1, none⟩ = some (.int .u8 b1)) (h2 : w.cell? ⟨b, off + 2, none⟩ = some (.int .u8 b2))
    (hlo : w.cell? ⟨1, 0, none⟩ = some (.int .u8 128)) (hhi : w.cell? ⟨1, 1, none⟩ = some (.int .u8 191)) (hb : ¬ (b1 : Int) < 128) (hb' : ¬ (191 : Int) < b1) (hc : ¬ (b2 : Int) < 128) (hc2 : (191 : Int) < b2) : Calls Tryz.prog 33 #[.slice (some ⟨b, off, none⟩) 3 c] w (FullPost true w) := by
  have h1a := cell_alloc h1 (.cells #[.int .u8 128, .int .u8 191] 116)
  have h2a := cell_alloc h2 (.cells #[.int .u8 128, .int .u8 191] 116)
  go_enter Tryz.func33, Tryz.ntmps33
  go_wp2
  go_quiet (fail)
  all_goals (try (go_quiet (fail)))
  go_wp2
  go_ret
  exact ⟨rfl, below_drewN ((Below.refl _ _).alloc (Nat.le_refl _) _) _⟩
set_option maxRecDepth 100000 in
theorem Full_three_ok4 (b off c b0 b1 b2 : Nat) (w : World) (h0 : w.cell? ⟨b, off, none⟩ = some (.int .u8 b0)) (hb0 : b0 < 256) (hx : w.cell? ⟨0, b0, none⟩ = some (.int .u8 4)) (h1 : w.cell? ⟨b, off + 1, none⟩ = some (.int .u8 b1)) (h2 : w.cell? ⟨b, off + 2, none⟩ = some (.int .u8 b2))
    (hlo : w.cell? ⟨1, 0, none⟩ = some (.int .u8 128)) (hhi : w.cell? ⟨1, 1, none⟩ = some (.int .u8 191)) (hb : ¬ (b1 : Int) < 128) (hb' : ¬ (191 : Int) < b1) (hc : ¬ (b2 : Int) < 128) (hc2 : ¬ (191 : Int) < b2) : Calls Tryz.prog 33 #[.slice (some ⟨b, off, none⟩) 3 c] w (FullPost false w) := by
  have h1a := cell_alloc h1 (.cells #[.int .u8 128, .int .u8 191] 116)
  have h2a := cell_alloc h2 (.cells #[.int .u8 128, .int .u8 191] 116)
  go_enter Tryz.func33, Tryz.ntmps33
  go_wp2
  go_quiet (fail)
  all_goals (try (go_quiet (fail)))
  go_wp2
  go_ret
  exact ⟨rfl, below_drewN ((Below.refl _ _).alloc (Nat.le_refl _) _) _⟩
theorem Full_yes68 (b off n c b0 : Nat) (w : World) (hn : 0 < n) (hs : 4 ≤ n) (hn2 : n ≤ 4000000) (h0 : w.cell? ⟨b, off, none⟩ = some (.int .u8 b0)) (hb0 : b0 < 256) (hx : w.cell? ⟨0, b0, none⟩ = some (.int .u8 68)) :
    Calls Tryz.prog 33 #[.slice (some ⟨b, off, none⟩) n c] w (FullPost true w) := by
  have hz : ((n : Int) == 0) = false := by simp; omega
  have hlt : (0 : Int) < n := by omega
  have hsz : (4 : Int) ≤ n := by omega
  go_enter Tryz.func33, Tryz.ntmps33
  go_wp2
  go_ret
  exact ⟨rfl, Below.refl _ _⟩
theorem Full_one68 (b off c b0 : Nat) (w : World) (h0 : w.cell? ⟨b, off, none⟩ = some (.int .u8 b0)) (hb0 : b0 < 256) (hx : w.cell? ⟨0, b0, none⟩ = some (.int .u8 68))
    (hlo : w.cell? ⟨1, 8, none⟩ = some (.int .u8 128)) (hhi : w.cell? ⟨1, 9, none⟩ = some (.int .u8 143)) : Calls Tryz.prog 33 #[.slice (some ⟨b, off, none⟩) 1 c] w (FullPost false w) := by
  go_enter Tryz.func33, Tryz.ntmps33
  go_wp2
  go_quiet (fail)
  go_wp2
  go_ret
  exact ⟨rfl, below_drewN ((Below.refl _ _).alloc (Nat.le_refl _) _) _⟩
set_option maxRecDepth 100000 in
theorem Full_two_low68 (b off n c b0 b1 : Nat) (w : World) (hn : 1 < n) (hn2 : n < 4) (h0 : w.cell? ⟨b, off, none⟩ = some (.int .u8 b0)) (hb0 : b0 < 256) (hx : w.cell? ⟨0, b0, none⟩ = some (.int .u8 68)) (h1 : w.cell? ⟨b, off + 1, none⟩ = some (.int .u8 b1))
    (hlo : w.cell? ⟨1, 8, none⟩ = some (.int .u8 128)) (hhi : w.cell? ⟨1, 9, none⟩ = some (.int .u8 143)) (hb : (b1 : Int) < 128) : Calls Tryz.prog 33 #[.slice (some ⟨b, off, none⟩) n c] w (FullPost true w) := by
  have hz : ((n : Int) == 0) = false := by simp; omega
  have hlt : (0 : Int) < n := by omega
  have hlt1 : (1 : Int) < n := by omega
  have hsz : ¬ (4 : Int) ≤ n := by omega
  have h1a := cell_alloc h1 (.cells #[.int .u8 128, .int .u8 143] 116)
  go_enter Tryz.func33, Tryz.ntmps33
  go_wp2
  go_quiet (fail)
  go_wp2
  go_ret
  exact ⟨rfl, below_drewN ((Below.refl _ _).alloc (Nat.le_refl _) _) _⟩
set_option maxRecDepth 100000 in
theorem Full_two_high68 (b off n c b0 b1 : Nat) (w : World) (hn : 1 < n) (hn2 : n < 4) (h0 : w.cell? ⟨b, off, none⟩ = some (.int .u8 b0)) (hb0 : b0 < 256) (hx : w.cell? ⟨0, b0, none⟩ = some (.int .u8 68)) (h1 : w.cell? ⟨b, off + 1, none⟩ = some (.int .u8 b1))
    (hlo : w.cell? ⟨1, 8, none⟩ = some (.int .u8 128)) (hhi : w.cell? ⟨1, 9, none⟩ = some (.int .u8 143)) (hb : ¬ (b1 : Int) < 128) (hb' : (143 : Int) < b1) : Calls Tryz.prog 33 #[.slice (some ⟨b, off, none⟩) n c] w (FullPost true w) := by
  have hz : ((n : Int) == 0) = false := by simp; omega
  have hlt : (0 : Int) < n := by omega
  have hlt1 : (1 : Int) < n := by omega
  have hsz : ¬ (4 : Int) ≤ n := by omega
  have h1a := cell_alloc h1 (.cells #[.int .u8 128, .int .u8 143] 116)
  go_enter Tryz.func33, Tryz.ntmps33
  go_wp2
  go_quiet (fail)
  go_wp2
  go_ret
  exact ⟨rfl, below_drewN ((Below.refl _ _).alloc (Nat.le_refl _) _) _⟩
set_option maxRecDepth 100000 in
theorem Full_two_ok68 (b off c b0 b1 : Nat) (w : World) (h0 : w.cell? ⟨b, off, none⟩ = some (.int .u8 b0)) (hb0 : b0 < 256) (hx : w.cell? ⟨0, b0, none⟩ = some (.int .u8 68)) (h1 : w.cell? ⟨b, off + 1, none⟩ = some (.int .u8 b1))
    (hlo : w.cell? ⟨1, 8, none⟩ = some (.int .u8 128)) (hhi : w.cell? ⟨1, 9, none⟩ = some (.int .u8 143)) (hb : ¬ (b1 : Int) < 128) (hb' : ¬ (143 : Int) < b1) : Calls Tryz.prog 33 #[.slice (some ⟨b, off, none⟩) 2 c] w (FullPost false w) := by
  have h1a := cell_alloc h1 (.cells #[.int .u8 128, .int .u8 143] 116)
  go_enter Tryz.func33, Tryz.ntmps33
  go_wp2
  go_quiet (fail)
  go_wp2
  go_ret
  exact ⟨rfl, below_drewN ((Below.refl _ _).alloc (Nat.le_refl _) _) _⟩
set_option maxRecDepth 100000 in
theorem Full_three_low68 (b off c b0 b1 b2 : Nat) (w : World) (h0 : w.cell? ⟨b, off, none⟩ = some (.int .u8 b0)) (hb0 : b0 < 256) (hx : w.cell? ⟨0, b0, none⟩ = some (.int .u8 68)) (h1 : w.cell? ⟨b, off + 1, none⟩ = some (.int .u8 b1)) (h2 : w.cell? ⟨b, off + 2, none⟩ = some (.int .u8 b2))
    (hlo : w.cell? ⟨1, 8, none⟩ = some (.int .u8 128)) (hhi : w.cell? ⟨1, 9, none⟩ = some (.int .u8 143)) (hb : ¬ (b1 : Int) < 128) (hb' : ¬ (143 : Int) < b1) (hc : (b2 : Int) < 128) : Calls Tryz.prog 33 #[.slice (some ⟨b, off, none⟩) 3 c] w (FullPost true w) := by
  have h1a := cell_alloc h1 (.cells #[.int .u8 128, .int .u8 143] 116)
  have h2a := cell_alloc h2 (.cells #[.int .u8 128, .int .u8 143] 116)
  go_enter Tryz.func33, Tryz.ntmps33
  go_wp2
  go_quiet (fail)
  all_goals (try (go_quiet (fail)))
  go_wp2
  go_ret
  exact ⟨rfl, below_drewN ((Below.refl _ _).alloc (Nat.le_refl _) _) _⟩
set_option maxRecDepth 100000 in
theorem Full_three_high68 (b off c b0 b1 b2 : Nat) (w : World) (h0 : w.cell? ⟨b, off, none⟩ = some (.int .u8 b0)) (hb0 : b0 < 256) (hx : w.cell? ⟨0, b0, none⟩ = some (.int .u8 68)) (h1 : w.cell? ⟨b, off + 1, none⟩ = some (.int .u8 b1)) (h2 : w.cell? ⟨b, off + 2, none⟩ = some (.int .u8 b2))
    (hlo : w.cell? ⟨1, 8, none⟩ = some (.int .u8 128)) (hhi : w.cell? ⟨1, 9, none⟩ = some (.int .u8 143)) (hb : ¬ (b1 : Int) < 128) (hb' : ¬ (143 : Int) < b1) (hc : ¬ (b2 : Int) < 128) (hc2 : (191 : Int) < b2) : Calls Tryz.prog 33 #[.slice (some ⟨b, off, none⟩) 3 c] w (FullPost true w) := by
  have h1a := cell_alloc h1 (.cells #[.int .u8 128, .int .u8 143] 116)
  have h2a := cell_alloc h2 (.cells #[.int .u8 128, .int .u8 143] 116)
  go_enter Tryz.func33, Tryz.ntmps33
  go_wp2
  go_quiet (fail)
  all_goals (try (go_quiet (fail)))
  go_wp2
  go_ret
  exact ⟨rfl, below_drewN ((Below.refl _ _).alloc (Nat.le_refl _) _) _⟩
set_option maxRecDepth 100000 in
theorem Full_three_ok68 (b off c b0 b1 b2 : Nat) (w : World) (h0 : w.cell? ⟨b, off, none⟩ = some (.int .u8 b0)) (hb0 : b0 < 256) (hx : w.cell? ⟨0, b0, none⟩ = some (.int .u8 68)) (h1 : w.cell? ⟨b, off + 1, none⟩ = some (.int .u8 b1)) (h2 : w.cell? ⟨b, off + 2, none⟩ = some (.int .u8 b2))
    (hlo : w.cell? ⟨1, 8, none⟩ = some (.int .u8 128)) (hhi : w.cell? ⟨1, 9, none⟩ = some (.int .u8 143)) (hb : ¬ (b1 : Int) < 128) (hb' : ¬ (143 : Int) < b1) (hc : ¬ (b2 : Int) < 128) (hc2 : ¬ (191 : Int) < b2) : Calls Tryz.prog 33 #[.slice (some ⟨b, off, none⟩) 3 c] w (FullPost false w) := by
  have h1a := cell_alloc h1 (.cells #[.int .u8 128, .int .u8 143] 116)
  have h2a := cell_alloc h2 (.cells #[.int .u8 128, .int .u8 143] 116)
  go_enter Tryz.func33, Tryz.ntmps33
  go_wp2
  go_quiet (fail)
  all_goals (try (go_quiet (fail)))
  go_wp2
  go_ret
  exact ⟨rfl, below_drewN ((Below.refl _ _).alloc (Nat.le_refl _) _) _⟩
end
section
open Go.Shelf Go.RowKit Go.Lib
theorem first_cases (b0 : Nat) (h : b0 < 256) : (b0 < 128 ∧ firstT b0 = 240) ∨ ((128 ≤ b0 ∧ b0 < 194 ∨ 245 ≤ b0) ∧ firstT b0 = 241) ∨ (194 ≤ b0 ∧ b0 < 224 ∧ firstT b0 = 2) ∨ (b0 = 224 ∧ firstT b0 = 19) ∨
    ((225 ≤ b0 ∧ b0 < 237 ∨ 238 ≤ b0 ∧ b0 < 240) ∧ firstT b0 = 3) ∨ (b0 = 237 ∧ firstT b0 = 35) ∨ (b0 = 240 ∧ firstT b0 = 52) ∨ (241 ≤ b0 ∧ b0 < 244 ∧ firstT b0 = 4) ∨ (b0 = 244 ∧ firstT b0 = 68) := by
  unfold firstT
  repeat' split
  all_goals omega
open Pieces (fullN) in
open Classical in
theorem Full_N (b off n c b0 b1 b2 : Nat) (w : World) (hn : 0 < n) (hn2 : n ≤ 4000000) (h0 : w.cell? ⟨b, off, none⟩ = some (.int .u8 b0)) (hb0 : b0 < 256)
    (h1 : 1 < n → w.cell? ⟨b, off + 1, none⟩ = some (.int .u8 b1)) (h2 : 2 < n → w.cell? ⟨b, off + 2, none⟩ = some (.int .u8 b2)) (hT : Lib.Utf8Tabs 0 1 w) :
    Calls Tryz.prog 33 #[.slice (some ⟨b, off, none⟩) n c] w (FullPost (decide (fullN n b0 b1 b2)) w) := by
  have hx := hT.1 b0 hb0
  have yes : fullN n b0 b1 b2 → Calls Tryz.prog 33 #[.slice (some ⟨b, off, none⟩) n c] w (FullPost true w) → Calls Tryz.prog 33 #[.slice (some ⟨b, off, none⟩) n c] w (FullPost (decide (fullN n b0 b1 b2)) w) := fun h k => by
    rw [decide_eq_true h]; exact k
  have no : ¬ fullN n b0 b1 b2 → Calls Tryz.prog 33 #[.slice (some ⟨b, off, none⟩) n c] w (FullPost false w) → Calls Tryz.prog 33 #[.slice (some ⟨b, off, none⟩) n c] w (FullPost (decide (fullN n b0 b1 b2)) w) := fun h k => by
    rw [decide_eq_false h]; exact k
  rcases first_cases b0 hb0 with ⟨hc, he⟩ | ⟨hc, he⟩ | ⟨hc, hc', he⟩ | ⟨hc, he⟩ | ⟨hc, he⟩ | ⟨hc, he⟩ | ⟨hc, he⟩ | ⟨hc, hc', he⟩ | ⟨hc, he⟩ <;> rw [he] at hx
  · exact yes (by unfold fullN; rw [if_pos (by omega)]; trivial) (Full_yes240 _ _ _ _ _ _ hn (by omega) hn2 h0 hb0 hx)
  · exact yes (by unfold fullN; rw [if_pos (by omega)]; trivial) (Full_yes241 _ _ _ _ _ _ hn (by omega) hn2 h0 hb0 hx)
  · have hf : fullN n b0 b1 b2 ↔ 2 ≤ n := by unfold fullN; rw [if_neg (by omega), if_pos (by omega)]
    rcases Nat.lt_or_ge 1 n with c2 | c2
    · exact yes (hf.2 c2) (Full_yes2 _ _ _ _ _ _ hn c2 hn2 h0 hb0 hx)
    · obtain rfl : n = 1 := by omega
      exact no (by rw [hf]; omega) (Full_one2 _ _ _ _ _ h0 hb0 hx (hT.2 0 (by omega)).1 (hT.2 0 (by omega)).2)
  · have hf : fullN n b0 b1 b2 ↔ 3 ≤ n ∨ (1 < n ∧ (b1 < 160 ∨ 191 < b1)) := by
      unfold fullN; rw [if_neg (by omega), if_neg (by omega), if_pos (by omega)]
      rw [if_pos hc, if_neg (by omega)]
    rcases Nat.lt_or_ge 2 n with c3 | c3
    · exact yes (hf.2 (.inl c3)) (Full_yes19 _ _ _ _ _ _ hn c3 hn2 h0 hb0 hx)
    · rcases Nat.lt_or_ge 1 n with c2 | c2
      · have g1 := h1 c2
        by_cases d1 : (b1 : Int) < 160
        · exact yes (hf.2 (.inr ⟨c2, .inl (by omega)⟩)) (Full_two_low19 _ _ _ _ _ _ _ c2 (by omega) h0 hb0 hx g1 (hT.2 1 (by omega)).1 (hT.2 1 (by omega)).2 d1)
        · by_cases d2 : (191 : Int) < b1
          · exact yes (hf.2 (.inr ⟨c2, .inr (by omega)⟩)) (Full_two_high19 _ _ _ _ _ _ _ c2 (by omega) h0 hb0 hx g1 (hT.2 1 (by omega)).1 (hT.2 1 (by omega)).2 d1 d2)
          · obtain rfl : n = 2 := by omega
            exact no (by rw [hf]; omega) (Full_two_ok19 _ _ _ _ _ _ h0 hb0 hx g1 (hT.2 1 (by omega)).1 (hT.2 1 (by omega)).2 d1 d2)
      · obtain rfl : n = 1 := by omega
        exact no (by rw [hf]; omega) (Full_one19 _ _ _ _ _ h0 hb0 hx (hT.2 1 (by omega)).1 (hT.2 1 (by omega)).2)
  · have hf : fullN n b0 b1 b2 ↔ 3 ≤ n ∨ (1 < n ∧ (b1 < 128 ∨ 191 < b1)) := by
      unfold fullN; rw [if_neg (by omega), if_neg (by omega), if_pos (by omega)]
      rw [if_neg (by omega), if_neg (by omega)]
    rcases Nat.lt_or_ge 2 n with c3 | c3
    · exact yes (hf.2 (.inl c3)) (Full_yes3 _ _ _ _ _ _ hn c3 hn2 h0 hb0 hx)
    · rcases Nat.lt_or_ge 1 n with c2 | c2
      · have g1 := h1 c2
        by_cases d1 : (b1 : Int) < 128
        · exact yes (hf.2 (.inr ⟨c2, .inl (by omega)⟩)) (Full_two_low3 _ _ _ _ _ _ _ c2 (by omega) h0 hb0 hx g1 (hT.2 0 (by omega)).1 (hT.2 0 (by omega)).2 d1)
        · by_cases d2 : (191 : Int) < b1
          · exact yes (hf.2 (.inr ⟨c2, .inr (by omega)⟩)) (Full_two_high3 _ _ _ _ _ _ _ c2 (by omega) h0 hb0 hx g1 (hT.2 0 (by omega)).1 (hT.2 0 (by omega)).2 d1 d2)
          · obtain rfl : n = 2 := by omega
            exact no (by rw [hf]; omega) (Full_two_ok3 _ _ _ _ _ _ h0 hb0 hx g1 (hT.2 0 (by omega)).1 (hT.2 0 (by omega)).2 d1 d2)
      · obtain rfl : n = 1 := by omega
        exact no (by rw [hf]; omega) (Full_one3 _ _ _ _ _ h0 hb0 hx (hT.2 0 (by omega)).1 (hT.2 0 (by omega)).2)
  · have hf : fullN n b0 b1 b2 ↔ 3 ≤ n ∨ (1 < n ∧ (b1 < 128 ∨ 159 < b1)) := by
      unfold fullN; rw [if_neg (by omega), if_neg (by omega), if_pos (by omega)]
      rw [if_neg (by omega), if_pos hc]
    rcases Nat.lt_or_ge 2 n with c3 | c3
    · exact yes (hf.2 (.inl c3)) (Full_yes35 _ _ _ _ _ _ hn c3 hn2 h0 hb0 hx)
    · rcases Nat.lt_or_ge 1 n with c2 | c2
      · have g1 := h1 c2
        by_cases d1 : (b1 : Int) < 128
        · exact yes (hf.2 (.inr ⟨c2, .inl (by omega)⟩)) (Full_two_low35 _ _ _ _ _ _ _ c2 (by omega) h0 hb0 hx g1 (hT.2 2 (by omega)).1 (hT.2 2 (by omega)).2 d1)
        · by_cases d2 : (159 : Int) < b1
          · exact yes (hf.2 (.inr ⟨c2, .inr (by omega)⟩)) (Full_two_high35 _ _ _ _ _ _ _ c2 (by omega) h0 hb0 hx g1 (hT.2 2 (by omega)).1 (hT.2 2 (by omega)).2 d1 d2)
          · obtain rfl : n = 2 := by omega
            exact no (by rw [hf]; omega) (Full_two_ok35 _ _ _ _ _ _ h0 hb0 hx g1 (hT.2 2 (by omega)).1 (hT.2 2 (by omega)).2 d1 d2)
      · obtain rfl : n = 1 := by omega
        exact no (by rw [hf]; omega) (Full_one35 _ _ _ _ _ h0 hb0 hx (hT.2 2 (by omega)).1 (hT.2 2 (by omega)).2)
  · have hf : fullN n b0 b1 b2 ↔ 4 ≤ n ∨ (1 < n ∧ (b1 < 144 ∨ 191 < b1)) ∨ (2 < n ∧ (b2 < 128 ∨ 191 < b2)) := by
      unfold fullN; rw [if_neg (by omega), if_neg (by omega), if_neg (by omega)]
      rw [if_pos hc, if_neg (by omega)]
    rcases Nat.lt_or_ge 3 n with c4 | c4
    · exact yes (hf.2 (.inl c4)) (Full_yes52 _ _ _ _ _ _ hn c4 hn2 h0 hb0 hx)
    · rcases Nat.lt_or_ge 1 n with c2 | c2
      · have g1 := h1 c2
        by_cases d1 : (b1 : Int) < 144
        · exact yes (hf.2 (.inr (.inl ⟨c2, .inl (by omega)⟩))) (Full_two_low52 _ _ _ _ _ _ _ c2 (by omega) h0 hb0 hx g1 (hT.2 3 (by omega)).1 (hT.2 3 (by omega)).2 d1)
        · by_cases d2 : (191 : Int) < b1
          · exact yes (hf.2 (.inr (.inl ⟨c2, .inr (by omega)⟩))) (Full_two_high52 _ _ _ _ _ _ _ c2 (by omega) h0 hb0 hx g1 (hT.2 3 (by omega)).1 (hT.2 3 (by omega)).2 d1 d2)
          · rcases Nat.lt_or_ge 2 n with c3 | c3
            · have g2 := h2 c3
              obtain rfl : n = 3 := by omega
              by_cases d3 : (b2 : Int) < 128
              · exact yes (hf.2 (.inr (.inr ⟨c3, .inl (by omega)⟩))) (Full_three_low52 _ _ _ _ _ _ _ h0 hb0 hx g1 g2 (hT.2 3 (by omega)).1 (hT.2 3 (by omega)).2 d1 d2 d3)
              · by_cases d4 : (191 : Int) < b2
                · exact yes (hf.2 (.inr (.inr ⟨c3, .inr (by omega)⟩))) (Full_three_high52 _ _ _ _ _ _ _ h0 hb0 hx g1 g2 (hT.2 3 (by omega)).1 (hT.2 3 (by omega)).2 d1 d2 d3 d4)
                · exact no (by rw [hf]; omega) (Full_three_ok52 _ _ _ _ _ _ _ h0 hb0 hx g1 g2 (hT.2 3 (by omega)).1 (hT.2 3 (by omega)).2 d1 d2 d3 d4)
            · obtain rfl : n = 2 := by omega
              exact no (by rw [hf]; omega) (Full_two_ok52 _ _ _ _ _ _ h0 hb0 hx g1 (hT.2 3 (by omega)).1 (hT.2 3 (by omega)).2 d1 d2)
      · obtain rfl : n = 1 := by omega
        exact no (by rw [hf]; omega) (Full_one52 _ _ _ _ _ h0 hb0 hx (hT.2 3 (by omega)).1 (hT.2 3 (by omega)).2)
  · have hf : fullN n b0 b1 b2 ↔ 4 ≤ n ∨ (1 < n ∧ (b1 < 128 ∨ 191 < b1)) ∨ (2 < n ∧ (b2 < 128 ∨ 191 < b2)) := by
      unfold fullN; rw [if_neg (by omega), if_neg (by omega), if_neg (by omega)]
      rw [if_neg (by omega), if_neg (by omega)]
    rcases Nat.lt_or_ge 3 n with c4 | c4
    · exact yes (hf.2 (.inl c4)) (Full_yes4 _ _ _ _ _ _ hn c4 hn2 h0 hb0 hx)
    · rcases Nat.lt_or_ge 1 n with c2 | c2
      · have g1 := h1 c2
        by_cases d1 : (b1 : Int) < 128
        · exact yes (hf.2 (.inr (.inl ⟨c2, .inl (by omega)⟩))) (Full_two_low4 _ _ _ _ _ _ _ c2 (by omega) h0 hb0 hx g1 (hT.2 0 (by omega)).1 (hT.2 0 (by omega)).2 d1)
        · by_cases d2 : (191 : Int) < b1
          · exact yes (hf.2 (.inr (.inl ⟨c2, .inr (by omega)⟩))) (Full_two_high4 _ _ _ _ _ _ _ c2 (by omega) h0 hb0 hx g1 (hT.2 0 (by omega)).1 (hT.2 0 (by omega)).2 d1 d2)
          · rcases Nat.lt_or_ge 2 n with c3 | c3
            · have g2 := h2 c3
              obtain rfl : n = 3 := by omega
              by_cases d3 : (b2 : Int) < 128
              · exact yes (hf.2 (.inr (.inr ⟨c3, .inl (by omega)⟩))) (Full_three_low4 _ _ _ _ _ _ _ h0 hb0 hx g1 g2 (hT.2 0 (by omega)).1 (hT.2 0 (by omega)).2 d1 d2 d3)
              · by_cases d4 : (191 : Int) < b2
                · exact yes (hf.2 (.inr (.inr ⟨c3, .inr (by omega)⟩))) (Full_three_high4 _ _ _ _ _ _ _ h0 hb0 hx g1 g2 (hT.2 0 (by omega)).1 (hT.2 0 (by omega)).2 d1 d2 d3 d4)
                · exact no (by rw [hf]; omega) (Full_three_ok4 _ _ _ _ _ _ _ h0 hb0 hx g1 g2 (hT.2 0 (by omega)).1 (hT.2 0 (by omega)).2 d1 d2 d3 d4)
            · obtain rfl : n = 2 := by omega
              exact no (by rw [hf]; omega) (Full_two_ok4 _ _ _ _ _ _ h0 hb0 hx g1 (hT.2 0 (by omega)).1 (hT.2 0 (by omega)).2 d1 d2)
      · obtain rfl : n = 1 := by omega
        exact no (by rw [hf]; omega) (Full_one4 _ _ _ _ _ h0 hb0 hx (hT.2 0 (by omega)).1 (hT.2 0 (by omega)).2)
  · have hf : fullN n b0 b1 b2 ↔ 4 ≤ n ∨ (1 < n ∧ (b1 < 128 ∨ 143 < b1)) ∨ (2 < n ∧ (b2 < 128 ∨ 191 < b2)) := by
      unfold fullN; rw [if_neg (by omega), if_neg (by omega), if_neg (by omega)]
      rw [if_neg (by omega), if_pos hc]
    rcases Nat.lt_or_ge 3 n with c4 | c4
    · exact yes (hf.2 (.inl c4)) (Full_yes68 _ _ _ _ _ _ hn c4 hn2 h0 hb0 hx)
    · rcases Nat.lt_or_ge 1 n with c2 | c2
      · have g1 := h1 c2
        by_cases d1 : (b1 : Int) < 128
        · exact yes (hf.2 (.inr (.inl ⟨c2, .inl (by omega)⟩))) (Full_two_low68 _ _ _ _ _ _ _ c2 (by omega) h0 hb0 hx g1 (hT.2 4 (by omega)).1 (hT.2 4 (by omega)).2 d1)
        · by_cases d2 : (143 : Int) < b1
          · exact yes (hf.2 (.inr (.inl ⟨c2, .inr (by omega)⟩))) (Full_two_high68 _ _ _ _ _ _ _ c2 (by omega) h0 hb0 hx g1 (hT.2 4 (by omega)).1 (hT.2 4 (by omega)).2 d1 d2)
          · rcases Nat.lt_or_ge 2 n with c3 | c3
            · have g2 := h2 c3
              obtain rfl : n = 3 := by omega
              by_cases d3 : (b2 : Int) < 128
              · exact yes (hf.2 (.inr (.inr ⟨c3, .inl (by omega)⟩))) (Full_three_low68 _ _ _ _ _ _ _ h0 hb0 hx g1 g2 (hT.2 4 (by omega)).1 (hT.2 4 (by omega)).2 d1 d2 d3)
              · by_cases d4 : (191 : Int) < b2
                · exact yes (hf.2 (.inr (.inr ⟨c3, .inr (by omega)⟩))) (Full_three_high68 _ _ _ _ _ _ _ h0 hb0 hx g1 g2 (hT.2 4 (by omega)).1 (hT.2 4 (by omega)).2 d1 d2 d3 d4)
                · exact no (by rw [hf]; omega) (Full_three_ok68 _ _ _ _ _ _ _ h0 hb0 hx g1 g2 (hT.2 4 (by omega)).1 (hT.2 4 (by omega)).2 d1 d2 d3 d4)
            · obtain rfl : n = 2 := by omega
              exact no (by rw [hf]; omega) (Full_two_ok68 _ _ _ _ _ _ h0 hb0 hx g1 (hT.2 4 (by omega)).1 (hT.2 4 (by omega)).2 d1 d2)
      · obtain rfl : n = 1 := by omega
        exact no (by rw [hf]; omega) (Full_one68 _ _ _ _ _ h0 hb0 hx (hT.2 4 (by omega)).1 (hT.2 4 (by omega)).2)
end
end Go.Proofs.YtfmnninijakknaaGreatDoor.searchPieces
