/- FoldCompares's closed run: a table of known calls. -/
import Derived.Test.YtnfghboholehdaaGreatDoorKB0
namespace Go.Proofs.YtnfghboholehdaaGreatDoor.foldCompares
noncomputable def tblE : List (Nat × List Am.Known) := [(59, [k556, k610])]
noncomputable def orcE : Nat → Am.AV → Am.H → Option Am.Res := Am.orcT [] tblE
theorem orcEOk : Am.OrcOk Tryz.prog (Am.gOfO Tryz.prog ext orcE) := Am.orcT_ok (Am.kt_cons (Am.kn_cons k556Ok (Am.kn_cons k610Ok Am.kn_nil)) Am.kt_nil)
theorem oneA_orcE {e : Am.Known} (R : List Nat) (h : Am.and2 (Am.fnOf Tryz.prog e.f).isSome (Am.and2 (orcE e.f e.args (Am.tabH [])).isNone (Am.chkK e R ((Am.run (Am.gOfO Tryz.prog ext orcE) (Nat.succ 3999)).call e.f e.args (Am.tabH [])))) = true) : Am.OneOk Tryz.prog [] e := by
  obtain ⟨h1, h2⟩ := Am.and2_ok h
  obtain ⟨h3, h4⟩ := Am.and2_ok h2
  exact Am.one_of_run (N := 3999) mixed progOk (extOk _) orcEOk h1 (Option.isNone_iff_eq_none.1 h3) (by kernel_rfl) h4
theorem oneB_orcE {e : Am.Known} (R : List Nat) (h : Am.and2 (Am.fnOf Tryz.prog e.f).isSome (Am.and2 (orcE e.f e.args (Am.tabH tabsB)).isNone (Am.chkK e R ((Am.run (Am.gOfO Tryz.prog ext orcE) (Nat.succ 3999)).call e.f e.args (Am.tabH tabsB)))) = true) : Am.OneOk Tryz.prog tabsB e := by
  obtain ⟨h1, h2⟩ := Am.and2_ok h
  obtain ⟨h3, h4⟩ := Am.and2_ok h2
  exact Am.one_of_run (N := 3999) mixed progOk (extOk _) orcEOk h1 (Option.isNone_iff_eq_none.1 h3) (by kernel_rfl) h4
end Go.Proofs.YtnfghboholehdaaGreatDoor.foldCompares
