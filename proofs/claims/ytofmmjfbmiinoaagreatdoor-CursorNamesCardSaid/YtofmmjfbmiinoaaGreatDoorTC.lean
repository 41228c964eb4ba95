/- CursorNames's closed run: a table of known calls. -/
import Derived.Test.YtofmmjfbmiinoaaGreatDoorKC0
import Derived.Test.YtofmmjfbmiinoaaGreatDoorTB
namespace Go.Proofs.YtofmmjfbmiinoaaGreatDoor.cursorNames
noncomputable def tblC : List (Nat × List Am.Known) := [(48, [k40, k97, k116]), (16, [k41, k42, k43, k100, k101, k102, k103, k117]), (94, [k98]), (95, [k99])]
noncomputable def orcC : Nat → Am.AV → Am.H → Option Am.Res := Am.orcT [] tblC
theorem orcCOk : Am.OrcOk Tryz.prog (Am.gOfO Tryz.prog ext orcC) := Am.orcT_ok (Am.kt_cons (Am.kn_cons k40Ok (Am.kn_cons k97Ok (Am.kn_cons k116Ok Am.kn_nil))) (Am.kt_cons (Am.kn_cons k41Ok (Am.kn_cons k42Ok (Am.kn_cons k43Ok (Am.kn_cons k100Ok (Am.kn_cons k101Ok (Am.kn_cons k102Ok (Am.kn_cons k103Ok (Am.kn_cons k117Ok Am.kn_nil)))))))) (Am.kt_cons (Am.kn_cons k98Ok Am.kn_nil) (Am.kt_cons (Am.kn_cons k99Ok Am.kn_nil) Am.kt_nil))))
end Go.Proofs.YtofmmjfbmiinoaaGreatDoor.cursorNames
