/- FoldWrites's closed run: a table of known calls. -/
import Derived.Test.YtnfghboholehdaaGreatDoorKA0
import Derived.Test.YtnfghboholehdaaGreatDoorKC0
import Derived.Test.YtnfghboholehdaaGreatDoorAmR
namespace Go.Proofs.YtnfghboholehdaaGreatDoor.foldWrites
open Go.Proofs.YtnfghboholehdaaGreatDoor.Am
noncomputable section
def tblL : List (Nat × List Known) := [(71, [k54, k189]), (154, [k55, k56, k57, k58, k59, k60, k61, k62, k63, k64, k65, k66, k67, k68, k190, k191, k192, k193, k194, k195, k196, k197, k198, k199, k200, k201, k202, k203, k204, k205, k206]), (110, [k69, k207])]
def orcL : Nat → Am.AV → Am.H → Option Am.Res := Am.orcT [] tblL
theorem orcLOk : Am.OrcOk Tryz.prog (Am.gOfO Tryz.prog ext orcL) := Am.orcT_ok (kt_cons (kn_cons k54Ok (kn_cons k189Ok kn_nil)) (kt_cons (kn_cons k55Ok (kn_cons k56Ok (kn_cons k57Ok (kn_cons k58Ok (kn_cons k59Ok (kn_cons k60Ok (kn_cons k61Ok (kn_cons k62Ok (kn_cons k63Ok (kn_cons k64Ok (kn_cons k65Ok (kn_cons k66Ok (kn_cons k67Ok (kn_cons k68Ok (kn_cons k190Ok (kn_cons k191Ok (kn_cons k192Ok (kn_cons k193Ok (kn_cons k194Ok (kn_cons k195Ok (kn_cons k196Ok (kn_cons k197Ok (kn_cons k198Ok (kn_cons k199Ok (kn_cons k200Ok (kn_cons k201Ok (kn_cons k202Ok (kn_cons k203Ok (kn_cons k204Ok (kn_cons k205Ok (kn_cons k206Ok kn_nil))))))))))))))))))))))))))))))) (kt_cons (kn_cons k69Ok (kn_cons k207Ok kn_nil)) Am.kt_nil)))
theorem oneA_orcL {e : Known} (R : List Nat) (h : Am.and2 (Am.fnOf Tryz.prog e.f).isSome (Am.and2 (orcL e.f e.args (Am.tabH [])).isNone (Am.chkK e R ((Am.run (Am.gOfO Tryz.prog ext orcL) (Nat.succ 3999)).call e.f e.args (Am.tabH [])))) = true) : Am.OneOk Tryz.prog [] e := by
 obtain ⟨h1, h2⟩ := Am.and2_ok h
 obtain ⟨h3, h4⟩ := Am.and2_ok h2
 exact Am.one_of_run (N := 3999) mixed progOk (extOk _) orcLOk h1 (Option.isNone_iff_eq_none.1 h3) (by kernel_rfl) h4
theorem oneB_orcL {e : Known} (R : List Nat) (h : Am.and2 (Am.fnOf Tryz.prog e.f).isSome (Am.and2 (orcL e.f e.args (Am.tabH tabsB)).isNone (Am.chkK e R ((Am.run (Am.gOfO Tryz.prog ext orcL) (Nat.succ 3999)).call e.f e.args (Am.tabH tabsB)))) = true) : Am.OneOk Tryz.prog tabsB e := by
 obtain ⟨h1, h2⟩ := Am.and2_ok h
 obtain ⟨h3, h4⟩ := Am.and2_ok h2
 exact Am.one_of_run (N := 3999) mixed progOk (extOk _) orcLOk h1 (Option.isNone_iff_eq_none.1 h3) (by kernel_rfl) h4
theorem mem_orcL {e : Am.Memo} (h : Am.and2 (Am.fnOf Tryz.prog e.f).isSome (Am.and2 (orcL e.f e.args (Am.inH e)).isNone (Am.and2 (Am.okM e) (Am.chkM e ((Am.run (Am.gOfO Tryz.prog ext orcL) (Nat.succ 3999)).call e.f e.args (Am.inH e))))) = true) : Am.OneM Tryz.prog e := by
 obtain ⟨h1, h2⟩ := Am.and2_ok h
 obtain ⟨h3, h4⟩ := Am.and2_ok h2
 obtain ⟨h5, h6⟩ := Am.and2_ok h4
 exact Am.oneM_of_run (N := 3999) mixed progOk (extOk _) orcLOk h1 (Option.isNone_iff_eq_none.1 h3) h5 h6
end
end Go.Proofs.YtnfghboholehdaaGreatDoor.foldWrites
