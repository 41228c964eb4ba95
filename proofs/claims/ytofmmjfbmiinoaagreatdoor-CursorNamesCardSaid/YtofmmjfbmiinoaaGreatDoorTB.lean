/- CursorNames's closed run: a table of known calls. -/
import Derived.Test.YtofmmjfbmiinoaaGreatDoorKB0
import Derived.Test.YtofmmjfbmiinoaaGreatDoorKB1
import Derived.Test.YtofmmjfbmiinoaaGreatDoorKB2
namespace Go.Proofs.YtofmmjfbmiinoaaGreatDoor.cursorNames
noncomputable def tblB : List (Nat × List Am.Known) := [(48, [k40, k97, k116])]
noncomputable def orcB : Nat → Am.AV → Am.H → Option Am.Res := Am.orcT [] tblB
theorem orcBOk : Am.OrcOk Tryz.prog (Am.gOfO Tryz.prog ext orcB) := Am.orcT_ok (Am.kt_cons (Am.kn_cons k40Ok (Am.kn_cons k97Ok (Am.kn_cons k116Ok Am.kn_nil))) Am.kt_nil)
end Go.Proofs.YtofmmjfbmiinoaaGreatDoor.cursorNames
