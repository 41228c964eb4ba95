/- SearchLeft's closed run: a table of known calls. -/
import Derived.Test.YtmpkgddioiaonaaGreatDoorKB0
namespace Go.Proofs.YtmpkgddioiaonaaGreatDoor.searchLeft
open Go.Proofs.YtmpkgddioiaonaaGreatDoor.Am
noncomputable section
def tblD : List (Nat × List Known) := [(40, [k204, k266])]
def orcD : Nat → Am.AV → Am.H → Option Am.Res := Am.orcT [] tblD
theorem orcDOk : Am.OrcOk Tryz.prog (Am.gOfO Tryz.prog ext orcD) := Am.orcT_ok (kt_cons (kn_cons k204Ok (kn_cons k266Ok kn_nil)) Am.kt_nil)
theorem oneA_orcD {e : Known} (R : List Nat) (h : Am.and2 (Am.fnOf Tryz.prog e.f).isSome (Am.and2 (orcD e.f e.args (Am.tabH [])).isNone (Am.chkK e R ((Am.run (Am.gOfO Tryz.prog ext orcD) (Nat.succ 3999)).call e.f e.args (Am.tabH [])))) = true) : Am.OneOk Tryz.prog [] e := by
 obtain ⟨h1, h2⟩ := Am.and2_ok h
 obtain ⟨h3, h4⟩ := Am.and2_ok h2
 exact Am.one_of_run (N := 3999) mixed progOk (extOk _) orcDOk h1 (Option.isNone_iff_eq_none.1 h3) (by kernel_rfl) h4
theorem oneB_orcD {e : Known} (R : List Nat) (h : Am.and2 (Am.fnOf Tryz.prog e.f).isSome (Am.and2 (orcD e.f e.args (Am.tabH tabsB)).isNone (Am.chkK e R ((Am.run (Am.gOfO Tryz.prog ext orcD) (Nat.succ 3999)).call e.f e.args (Am.tabH tabsB)))) = true) : Am.OneOk Tryz.prog tabsB e := by
 obtain ⟨h1, h2⟩ := Am.and2_ok h
 obtain ⟨h3, h4⟩ := Am.and2_ok h2
 exact Am.one_of_run (N := 3999) mixed progOk (extOk _) orcDOk h1 (Option.isNone_iff_eq_none.1 h3) (by kernel_rfl) h4
def k267 : Known := ⟨25, (S 10 469311983776682601570676 .nil), (.slice 64 0 4 1 false), [.cells 3 (I .i64 0 (I .i64 3 (I .i64 4 (I .i64 10 .nil))))]⟩
theorem k267Ok : OA k267 := oneA_orcD [273] (by kernel_rfl)
end
end Go.Proofs.YtmpkgddioiaonaaGreatDoor.searchLeft
