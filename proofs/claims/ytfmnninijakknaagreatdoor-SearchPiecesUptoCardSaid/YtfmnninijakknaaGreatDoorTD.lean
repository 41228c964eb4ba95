/- SearchPieces's closed run: a table of known calls. -/
import Derived.Test.YtfmnninijakknaaGreatDoorKB0
import Derived.Test.YtfmnninijakknaaGreatDoorKB1
namespace Go.Proofs.YtfmnninijakknaaGreatDoor.searchPieces
noncomputable def tblD : List (Nat × List Am.Known) := [(42, [k204, k266])]
noncomputable def orcD : Nat → Am.AV → Am.H → Option Am.Res := Am.orcT [] tblD
theorem orcDOk : Am.OrcOk Tryz.prog (Am.gOfO Tryz.prog ext orcD) := Am.orcT_ok (Am.kt_cons (Am.kn_cons k204Ok (Am.kn_cons k266Ok Am.kn_nil)) Am.kt_nil)
end Go.Proofs.YtfmnninijakknaaGreatDoor.searchPieces
