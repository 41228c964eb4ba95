/- FoldWrites, the plain law: runes' bytes; what the tables of letters say; letters turned. -/
import Derived.Test.YtnfghboholehdaaGreatDoorFC
import Derived.Lib.QuoteLoop
import Derived.Lib.MapLaws
namespace Go.Proofs.YtnfghboholehdaaGreatDoor.foldWrites
section
open Go.Shelf Go.RowKit Go.Lib Go.Proofs.YtnfghboholehdaaGreatDoor.Am
open Cases (smalls greats)
open Folds (dec dec_pos dec_le)
open Pieces (bt bt_lt bt_app)
def encN (c : Nat) : List UInt8 :=
 if c < 0x80 then [UInt8.ofNat c]
 else if c < 0x800 then [UInt8.ofNat (0xC0 + c / 64), UInt8.ofNat (0x80 + c % 64)]
 else if c < 0x10000 then [UInt8.ofNat (0xE0 + c / 4096), UInt8.ofNat (0x80 + c / 64 % 64), UInt8.ofNat (0x80 + c % 64)]
 else [UInt8.ofNat (0xF0 + c / 262144), UInt8.ofNat (0x80 + c / 4096 % 64), UInt8.ofNat (0x80 + c / 64 % 64), UInt8.ofNat (0x80 + c % 64)]
theorem isR_iff (r : Int) : isR r = true ↔ (0 ≤ r ∧ r ≤ 1114111 ∧ (r < 55296 ∨ 57343 < r)) := by
 unfold isR
 simp only [Bool.and_eq_true, Bool.or_eq_true, decide_eq_true_iff]
theorem raw_N (r : Int) (h : isR r = true) : (Utf8.encode r).data.toList = encN r.toNat := by
 have hv : Utf8.valid r = true := by
  have := (isR_iff r).1 h
  unfold Utf8.valid
  simp only [Bool.and_eq_true, Bool.or_eq_true, decide_eq_true_iff]
  omega
 unfold Utf8.encode encN
 simp only [hv, if_true]
 repeat' split
 all_goals rfl
theorem encR_raw (r : Int) (h : isR r = true) : encR r = (Utf8.encode r).data.toList := by unfold encR; rw [if_pos h]
theorem encR_N (r : Int) (h : isR r = true) : encR r = encN r.toNat := by rw [encR_raw r h, raw_N r h]
theorem ofNat_lt (n : Nat) (h : n < 256) : (UInt8.ofNat n).toNat = n := by rw [UInt8.toNat_ofNat', Nat.mod_eq_of_lt (by simpa using h)]
theorem isR_N {r : Int} (h : isR r = true) : r.toNat < 55296 ∨ (57343 < r.toNat ∧ r.toNat ≤ 1114111) := by
 have := (isR_iff r).1 h
 omega
theorem dec_isR (l : List UInt8) : isR ((dec l).1 : Int) = true := by
 rw [isR_iff]
 have := decodeN_valid l.length (bt l 0) (bt l 1) (bt l 2) (bt l 3) (bt_lt l 0)
 unfold dec
 omega
def okp (p : Int × Int) : Bool := decide (Cases.look smalls p.1 = some p.2) && decide (Cases.look greats p.1 = none) && decide (Cases.look greats p.2 = some p.1) && decide (Cases.look smalls p.2 = none) && (formsOf p.1).isNone && (formsOf p.2).isNone && isR p.1 && isR p.2
theorem okp0 : ((smalls.drop 0).take 60).all okp = true := by decide +kernel
theorem okp1 : ((smalls.drop 60).take 60).all okp = true := by decide +kernel
theorem okp2 : ((smalls.drop 120).take 60).all okp = true := by decide +kernel
theorem okp3 : ((smalls.drop 180).take 60).all okp = true := by decide +kernel
theorem okp4 : ((smalls.drop 240).take 60).all okp = true := by decide +kernel
theorem okp5 : ((smalls.drop 300).take 60).all okp = true := by decide +kernel
theorem okp6 : (smalls.drop 360).all okp = true := by decide +kernel
theorem okp_all {p : Int × Int} (h : p ∈ smalls) : okp p = true := by
 have step : ∀ c, ((smalls.drop c).take 60).all okp = true → (smalls.drop (c + 60)).all okp = true → (smalls.drop c).all okp = true := fun c h1 h2 => by
  rw [← List.take_append_drop 60 (smalls.drop c), List.all_append, h1, List.drop_drop, h2]
  rfl
 have h3 : (smalls.drop 0).all okp = true := step 0 okp0 (step 60 okp1 (step 120 okp2 (step 180 okp3 (step 240 okp4 (step 300 okp5 okp6)))))
 exact List.all_eq_true.1 h3 p h
structure Okp (r s : Int) : Prop where
 a : Cases.look smalls r = some s
 b : Cases.look greats r = none
 c : Cases.look greats s = some r
 d : Cases.look smalls s = none
 e : formsOf r = none
 f : formsOf s = none
 g : isR r = true
 h : isR s = true
theorem okp_of {r s : Int} (h : (r, s) ∈ smalls) : Okp r s := by
 have := okp_all h
 unfold okp at this
 simp only [Bool.and_eq_true, decide_eq_true_iff, Option.isNone_iff_eq_none] at this
 obtain ⟨⟨⟨⟨⟨⟨⟨a, b⟩, c⟩, d⟩, e⟩, f⟩, g⟩, h⟩ := this
 exact ⟨a, b, c, d, e, f, g, h⟩
theorem look_mem {l : List (Int × Int)} {r s : Int} (h : Cases.look l r = some s) : (r, s) ∈ l := by
 unfold Cases.look at h
 obtain ⟨p, hp, rfl⟩ := Option.map_eq_some_iff.1 h
 have h1 := List.mem_of_find?_eq_some hp
 have h2 := of_decide_eq_true (List.find?_some (p := fun x : Int × Int => decide (x.1 = r)) hp)
 rw [← h2]
 exact h1
theorem small_okp {r s : Int} (h : Cases.look smalls r = some s) : Okp r s := okp_of (look_mem h)
theorem great_okp {r s : Int} (h : Cases.look greats s = some r) : Okp r s := by
 have := look_mem h
 unfold greats at this
 obtain ⟨p, hp, he⟩ := List.mem_map.1 this
 obtain ⟨a, b⟩ := p
 injection he with e1 e2
 dsimp only at e1 e2
 subst e1 e2
 exact okp_of hp
theorem formV_none {r : Int} (h : formsOf r = none) (k : Nat) : formV r k = if k = 0 ∨ k = 3 then [(Cases.pair r).1] else [(Cases.pair r).2] := by
 unfold formV
 rw [h]
theorem Okp.big {r s : Int} (h : Okp r s) (k : Nat) : formV r k = if k = 0 ∨ k = 3 then [s] else [r] := by
 rw [formV_none h.e]
 unfold Cases.pair
 rw [h.a]
theorem Okp.low {r s : Int} (h : Okp r s) (k : Nat) : formV s k = if k = 0 ∨ k = 3 then [s] else [r] := by
 rw [formV_none h.f]
 unfold Cases.pair
 rw [h.d, h.c]
def okForm (r : Int) : Bool := [0, 1, 2, 3].all fun k => (!(formV r k).isEmpty) && ((formV r k).all isR && ((decide (k < 3) && (decide (r = 304) || decide (r = 305))) || decide ((formV r k).flatMap (fun x => formV x 3) = formV r 3)))
theorem okForm_all : Cases.specials.all okForm = true := by decide +kernel
theorem form_facts (r : Int) (hr : isR r = true) (k : Nat) (hk : k < 4) : formV r k ≠ [] ∧ (∀ x ∈ formV r k, isR x = true) ∧ (k = 3 ∨ (r ≠ 304 ∧ r ≠ 305) → (formV r k).flatMap (fun x => formV x 3) = formV r 3) := by
 cases hf : formsOf r with
 | some fs =>
   have hm : r ∈ Cases.specials := by
    rw [← List.contains_iff_mem, ← formsOf_iff, hf]; rfl
   have := List.all_eq_true.1 (List.all_eq_true.1 okForm_all r hm) k (by
    rcases (by omega : k = 0 ∨ k = 1 ∨ k = 2 ∨ k = 3) with rfl | rfl | rfl | rfl <;> decide)
   simp only [Bool.and_eq_true, Bool.or_eq_true, decide_eq_true_iff, Bool.not_eq_true', List.isEmpty_eq_false_iff, List.all_eq_true] at this
   refine ⟨this.1, this.2.1, fun h => ?_⟩
   rcases this.2.2 with ⟨h1, h2⟩ | h1
   ·rcases h with h | h
    ·omega
    ·rcases h2 with h2 | h2
     ·exact absurd h2 h.1
     ·exact absurd h2 h.2
   ·exact h1
 | none =>
   cases hs : Cases.look smalls r with
   | some s =>
     have ho := small_okp hs
     have hl := ho.low 3
     have hb := ho.big 3
     rw [if_pos (.inr rfl)] at hl hb
     rw [hb, ho.big k]
     split
     ·exact ⟨List.cons_ne_nil _ _, fun x hx => by rw [List.mem_singleton.1 hx]; exact ho.h, fun _ => by rw [List.flatMap_singleton, hl]⟩
     ·exact ⟨List.cons_ne_nil _ _, fun x hx => by rw [List.mem_singleton.1 hx]; exact ho.g, fun _ => by rw [List.flatMap_singleton, hb]⟩
   | none =>
     cases hg : Cases.look greats r with
     | some g =>
       have ho := great_okp hg
       have hl := ho.low 3
       have hb := ho.big 3
       rw [if_pos (.inr rfl)] at hl hb
       rw [hl, ho.low k]
       split
       ·exact ⟨List.cons_ne_nil _ _, fun x hx => by rw [List.mem_singleton.1 hx]; exact ho.h, fun _ => by rw [List.flatMap_singleton, hl]⟩
       ·exact ⟨List.cons_ne_nil _ _, fun x hx => by rw [List.mem_singleton.1 hx]; exact ho.g, fun _ => by rw [List.flatMap_singleton, hb]⟩
     | none =>
       have hp : Cases.pair r = (r, r) := by unfold Cases.pair; rw [hs, hg]
       have h1 : ∀ k, formV r k = [r] := fun k => by rw [formV_none hf, hp]; split <;> rfl
       rw [h1 k, h1 3]
       exact ⟨List.cons_ne_nil _ _, fun x hx => by rw [List.mem_singleton.1 hx]; exact hr, fun _ => by rw [List.flatMap_singleton, h1]⟩
end
section
open Go.Shelf Go.RowKit Go.Lib Go.Proofs.YtnfghboholehdaaGreatDoor.Am
open Cases (smalls greats)
open Folds (dec dec_pos dec_le)
def turn (r : Int) : Int := match Cases.look greats r with
 | some g => g
 | none => match Cases.look smalls r with
   | some s => s
   | none => r
theorem turn_isR {r : Int} (h : isR r = true) : isR (turn r) = true := by
 unfold turn
 cases hg : Cases.look greats r with
 | some g => exact (great_okp hg).g
 | none =>
   cases hs : Cases.look smalls r with
   | some s => exact (small_okp hs).h
   | none => exact h
def encTurn (r : Nat) : List UInt8 := (Utf8.encode (turn r)).data.toList
def turnT (t : List UInt8) : List UInt8 := catP (pcs (fun _ => encTurn) t t.length 0 0)
theorem turnT_len (t : List UInt8) : (turnT t).length ≤ 12 * t.length := by
 refine (pcs_len (fun _ => encTurn) (fun _ r => ?_) t t.length 0 0).1
 show (Utf8.encode (turn r)).data.toList.length ≤ 12
 unfold Utf8.encode
 dsimp only
 repeat' split
 all_goals simp
end
end Go.Proofs.YtnfghboholehdaaGreatDoor.foldWrites
