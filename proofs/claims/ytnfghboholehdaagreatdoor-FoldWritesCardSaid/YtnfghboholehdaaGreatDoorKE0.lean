/- FoldWrites's closed run: a table of known calls. -/
import Derived.Test.YtnfghboholehdaaGreatDoorKB0
namespace Go.Proofs.YtnfghboholehdaaGreatDoor.foldWrites
open Go.Proofs.YtnfghboholehdaaGreatDoor.Am
noncomputable section
def tblE : List (Nat × List Known) := [(59, [k556, k610])]
def orcE : Nat → Am.AV → Am.H → Option Am.Res := Am.orcT [] tblE
theorem orcEOk : Am.OrcOk Tryz.prog (Am.gOfO Tryz.prog ext orcE) := Am.orcT_ok (kt_cons (kn_cons k556Ok (kn_cons k610Ok kn_nil)) Am.kt_nil)
theorem oneA_orcE {e : Known} (R : List Nat) (h : Am.and2 (Am.fnOf Tryz.prog e.f).isSome (Am.and2 (orcE e.f e.args (Am.tabH [])).isNone (Am.chkK e R ((Am.run (Am.gOfO Tryz.prog ext orcE) (Nat.succ 3999)).call e.f e.args (Am.tabH [])))) = true) : Am.OneOk Tryz.prog [] e := by
 obtain ⟨h1, h2⟩ := Am.and2_ok h
 obtain ⟨h3, h4⟩ := Am.and2_ok h2
 exact Am.one_of_run (N := 3999) mixed progOk (extOk _) orcEOk h1 (Option.isNone_iff_eq_none.1 h3) (by kernel_rfl) h4
theorem oneB_orcE {e : Known} (R : List Nat) (h : Am.and2 (Am.fnOf Tryz.prog e.f).isSome (Am.and2 (orcE e.f e.args (Am.tabH tabsB)).isNone (Am.chkK e R ((Am.run (Am.gOfO Tryz.prog ext orcE) (Nat.succ 3999)).call e.f e.args (Am.tabH tabsB)))) = true) : Am.OneOk Tryz.prog tabsB e := by
 obtain ⟨h1, h2⟩ := Am.and2_ok h
 obtain ⟨h3, h4⟩ := Am.and2_ok h2
 exact Am.one_of_run (N := 3999) mixed progOk (extOk _) orcEOk h1 (Option.isNone_iff_eq_none.1 h3) (by kernel_rfl) h4
def k611 : Known := ⟨30, (S 5 418258117444 .nil), (.slice 64 0 4 1 false), [.cells 3 (I .i64 0 (I .i64 2 (I .i64 3 (I .i64 5 .nil))))]⟩
theorem k611Ok : OA k611 := oneA_orcE [183] (by kernel_rfl)
end
end Go.Proofs.YtnfghboholehdaaGreatDoor.foldWrites
