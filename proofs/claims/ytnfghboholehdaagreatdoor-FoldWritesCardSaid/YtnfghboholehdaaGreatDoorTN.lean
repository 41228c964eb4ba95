/- FoldWrites's closed run: what is known when the document's book is made. -/
import Derived.Test.YtnfghboholehdaaGreatDoorKA0
import Derived.Test.YtnfghboholehdaaGreatDoorMO0
import Derived.Test.YtnfghboholehdaaGreatDoorMO1
namespace Go.Proofs.YtnfghboholehdaaGreatDoor.foldWrites
open Go.Proofs.YtnfghboholehdaaGreatDoor.Am
noncomputable section
def tblN0 : List (Nat × List Known) := [(38, [k308, k388, k389, k398, k406, k413, k422, k428, k437, k439, k441, k450, k460, k468, k479, k483, k492, k499, k508, k515]), (39, [k309, k314, k317, k320, k324, k327, k330, k333, k336, k339, k342, k346, k349, k353, k356, k359, k363, k366, k369, k373, k376, k380, k383, k387, k390, k392, k393, k395, k397, k399, k401, k404, k405, k407, k409, k410, k412, k414, k416, k417, k420, k423, k425, k426, k427, k429, k431, k433, k434, k436, k438, k440, k442, k444, k445, k448, k451, k453, k454, k458, k461, k463, k464, k466, k469, k471, k472, k475, k477, k480, k482, k484, k486, k487, k489, k491, k493, k495, k496, k497, k498, k500, k502, k503, k505, k507, k509, k511, k512, k513, k514])]
def orcN0 : Nat → Am.AV → Am.H → Option Am.Res := Am.orcT [] tblN0
theorem orcN0Ok : Am.OrcOk Tryz.prog (Am.gOfO Tryz.prog ext orcN0) := Am.orcT_ok (kt_cons (kn_cons k308Ok (kn_cons k388Ok (kn_cons k389Ok (kn_cons k398Ok (kn_cons k406Ok (kn_cons k413Ok (kn_cons k422Ok (kn_cons k428Ok (kn_cons k437Ok (kn_cons k439Ok (kn_cons k441Ok (kn_cons k450Ok (kn_cons k460Ok (kn_cons k468Ok (kn_cons k479Ok (kn_cons k483Ok (kn_cons k492Ok (kn_cons k499Ok (kn_cons k508Ok (kn_cons k515Ok kn_nil)))))))))))))))))))) (kt_cons (kn_cons k309Ok (kn_cons k314Ok (kn_cons k317Ok (kn_cons k320Ok (kn_cons k324Ok (kn_cons k327Ok (kn_cons k330Ok (kn_cons k333Ok (kn_cons k336Ok (kn_cons k339Ok (kn_cons k342Ok (kn_cons k346Ok (kn_cons k349Ok (kn_cons k353Ok (kn_cons k356Ok (kn_cons k359Ok (kn_cons k363Ok (kn_cons k366Ok (kn_cons k369Ok (kn_cons k373Ok (kn_cons k376Ok (kn_cons k380Ok (kn_cons k383Ok (kn_cons k387Ok (kn_cons k390Ok (kn_cons k392Ok (kn_cons k393Ok (kn_cons k395Ok (kn_cons k397Ok (kn_cons k399Ok (kn_cons k401Ok (kn_cons k404Ok (kn_cons k405Ok (kn_cons k407Ok (kn_cons k409Ok (kn_cons k410Ok (kn_cons k412Ok (kn_cons k414Ok (kn_cons k416Ok (kn_cons k417Ok (kn_cons k420Ok (kn_cons k423Ok (kn_cons k425Ok (kn_cons k426Ok (kn_cons k427Ok (kn_cons k429Ok (kn_cons k431Ok (kn_cons k433Ok (kn_cons k434Ok (kn_cons k436Ok (kn_cons k438Ok (kn_cons k440Ok (kn_cons k442Ok (kn_cons k444Ok (kn_cons k445Ok (kn_cons k448Ok (kn_cons k451Ok (kn_cons k453Ok (kn_cons k454Ok (kn_cons k458Ok (kn_cons k461Ok (kn_cons k463Ok (kn_cons k464Ok (kn_cons k466Ok (kn_cons k469Ok (kn_cons k471Ok (kn_cons k472Ok (kn_cons k475Ok (kn_cons k477Ok (kn_cons k480Ok (kn_cons k482Ok (kn_cons k484Ok (kn_cons k486Ok (kn_cons k487Ok (kn_cons k489Ok (kn_cons k491Ok (kn_cons k493Ok (kn_cons k495Ok (kn_cons k496Ok (kn_cons k497Ok (kn_cons k498Ok (kn_cons k500Ok (kn_cons k502Ok (kn_cons k503Ok (kn_cons k505Ok (kn_cons k507Ok (kn_cons k509Ok (kn_cons k511Ok (kn_cons k512Ok (kn_cons k513Ok (kn_cons k514Ok kn_nil))))))))))))))))))))))))))))))))))))))))))))))))))))))))))))))))))))))))))))))))))))))))))) Am.kt_nil))
theorem oneA_orcN0 {e : Known} (R : List Nat) (h : Am.and2 (Am.fnOf Tryz.prog e.f).isSome (Am.and2 (orcN0 e.f e.args (Am.tabH [])).isNone (Am.chkK e R ((Am.run (Am.gOfO Tryz.prog ext orcN0) (Nat.succ 3999)).call e.f e.args (Am.tabH [])))) = true) : Am.OneOk Tryz.prog [] e := by
 obtain ⟨h1, h2⟩ := Am.and2_ok h
 obtain ⟨h3, h4⟩ := Am.and2_ok h2
 exact Am.one_of_run (N := 3999) mixed progOk (extOk _) orcN0Ok h1 (Option.isNone_iff_eq_none.1 h3) (by kernel_rfl) h4
theorem oneB_orcN0 {e : Known} (R : List Nat) (h : Am.and2 (Am.fnOf Tryz.prog e.f).isSome (Am.and2 (orcN0 e.f e.args (Am.tabH tabsB)).isNone (Am.chkK e R ((Am.run (Am.gOfO Tryz.prog ext orcN0) (Nat.succ 3999)).call e.f e.args (Am.tabH tabsB)))) = true) : Am.OneOk Tryz.prog tabsB e := by
 obtain ⟨h1, h2⟩ := Am.and2_ok h
 obtain ⟨h3, h4⟩ := Am.and2_ok h2
 exact Am.one_of_run (N := 3999) mixed progOk (extOk _) orcN0Ok h1 (Option.isNone_iff_eq_none.1 h3) (by kernel_rfl) h4
def orcN : Nat → Am.AV → Am.H → Option Am.Res := Am.orc2 orcN0 (Am.orcM [m0_of, m1_of])
theorem orcNOk : Am.OrcOk Tryz.prog (Am.gOfO Tryz.prog ext orcN) := Am.orc2_ok orcN0Ok (Am.orcM_ok (Am.m_cons m0_ofOk (Am.m_cons m1_ofOk Am.m_nil)))
end
end Go.Proofs.YtnfghboholehdaaGreatDoor.foldWrites
