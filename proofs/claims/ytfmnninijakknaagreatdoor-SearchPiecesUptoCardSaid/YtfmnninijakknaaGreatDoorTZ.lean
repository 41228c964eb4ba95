/- SearchPieces's closed run: a table of known calls. -/
import Derived.Test.YtfmnninijakknaaGreatDoorKD0
import Derived.Test.YtfmnninijakknaaGreatDoorKE0
import Derived.Test.YtfmnninijakknaaGreatDoorKE1
import Derived.Test.YtfmnninijakknaaGreatDoorKE2
import Derived.Test.YtfmnninijakknaaGreatDoorKE3
import Derived.Test.YtfmnninijakknaaGreatDoorKE4
import Derived.Test.YtfmnninijakknaaGreatDoorKE5
import Derived.Test.YtfmnninijakknaaGreatDoorKE6
import Derived.Test.YtfmnninijakknaaGreatDoorKE7
namespace Go.Proofs.YtfmnninijakknaaGreatDoor.searchPieces
noncomputable def tblZ : List (Nat × List Am.Known) := [(27, [k267])]
noncomputable def tblZB : List (Nat × List Am.Known) := [(19, [k205, k206, k207, k208, k209, k210, k211, k212])]
noncomputable def orcZ : Nat → Am.AV → Am.H → Option Am.Res := Am.orc2 (Am.orcT [] tblZ) (Am.orcT tabsB tblZB)
theorem orcZOk : Am.OrcOk Tryz.prog (Am.gOfO Tryz.prog ext orcZ) := Am.orc2_ok (Am.orcT_ok (Am.kt_cons (Am.kn_cons k267Ok Am.kn_nil) Am.kt_nil)) (Am.orcT_ok (Am.kt_cons (Am.kn_cons k205Ok (Am.kn_cons k206Ok (Am.kn_cons k207Ok (Am.kn_cons k208Ok (Am.kn_cons k209Ok (Am.kn_cons k210Ok (Am.kn_cons k211Ok (Am.kn_cons k212Ok Am.kn_nil)))))))) Am.kt_nil))
end Go.Proofs.YtfmnninijakknaaGreatDoor.searchPieces
