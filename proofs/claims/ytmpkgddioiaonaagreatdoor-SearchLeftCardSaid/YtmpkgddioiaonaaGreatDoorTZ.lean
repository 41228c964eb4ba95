/- SearchLeft's closed run: a table of known calls. -/
import Derived.Test.YtmpkgddioiaonaaGreatDoorKD0
import Derived.Test.YtmpkgddioiaonaaGreatDoorKE0
import Derived.Test.YtmpkgddioiaonaaGreatDoorKE1
import Derived.Test.YtmpkgddioiaonaaGreatDoorKE2
import Derived.Test.YtmpkgddioiaonaaGreatDoorKE3
import Derived.Test.YtmpkgddioiaonaaGreatDoorKE4
import Derived.Test.YtmpkgddioiaonaaGreatDoorKE5
import Derived.Test.YtmpkgddioiaonaaGreatDoorKE6
import Derived.Test.YtmpkgddioiaonaaGreatDoorKE7
namespace Go.Proofs.YtmpkgddioiaonaaGreatDoor.searchLeft
open Go.Proofs.YtmpkgddioiaonaaGreatDoor.Am
noncomputable section
def tblZ : List (Nat × List Known) := [(25, [k267])]
def tblZB : List (Nat × List Known) := [(13, [k205, k206, k207, k208, k209, k210, k211, k212])]
def orcZ : Nat → Am.AV → Am.H → Option Am.Res := Am.orc2 (Am.orcT [] tblZ) (Am.orcT tabsB tblZB)
theorem orcZOk : Am.OrcOk Tryz.prog (Am.gOfO Tryz.prog ext orcZ) := Am.orc2_ok (Am.orcT_ok (kt_cons (kn_cons k267Ok kn_nil) Am.kt_nil)) (Am.orcT_ok (kt_cons (kn_cons k205Ok (kn_cons k206Ok (kn_cons k207Ok (kn_cons k208Ok (kn_cons k209Ok (kn_cons k210Ok (kn_cons k211Ok (kn_cons k212Ok kn_nil)))))))) Am.kt_nil))
theorem oneA_orcZ {e : Known} (R : List Nat) (h : Am.and2 (Am.fnOf Tryz.prog e.f).isSome (Am.and2 (orcZ e.f e.args (Am.tabH [])).isNone (Am.chkK e R ((Am.run (Am.gOfO Tryz.prog ext orcZ) (Nat.succ 3999)).call e.f e.args (Am.tabH [])))) = true) : Am.OneOk Tryz.prog [] e := by
 obtain ⟨h1, h2⟩ := Am.and2_ok h
 obtain ⟨h3, h4⟩ := Am.and2_ok h2
 exact Am.one_of_run (N := 3999) mixed progOk (extOk _) orcZOk h1 (Option.isNone_iff_eq_none.1 h3) (by kernel_rfl) h4
theorem oneB_orcZ {e : Known} (R : List Nat) (h : Am.and2 (Am.fnOf Tryz.prog e.f).isSome (Am.and2 (orcZ e.f e.args (Am.tabH tabsB)).isNone (Am.chkK e R ((Am.run (Am.gOfO Tryz.prog ext orcZ) (Nat.succ 3999)).call e.f e.args (Am.tabH tabsB)))) = true) : Am.OneOk Tryz.prog tabsB e := by
 obtain ⟨h1, h2⟩ := Am.and2_ok h
 obtain ⟨h3, h4⟩ := Am.and2_ok h2
 exact Am.one_of_run (N := 3999) mixed progOk (extOk _) orcZOk h1 (Option.isNone_iff_eq_none.1 h3) (by kernel_rfl) h4
end
end Go.Proofs.YtmpkgddioiaonaaGreatDoor.searchLeft
