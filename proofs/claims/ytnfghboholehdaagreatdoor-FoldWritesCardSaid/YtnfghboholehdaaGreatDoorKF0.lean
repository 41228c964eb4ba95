/- FoldWrites's closed run: a table of known calls. -/
import Derived.Test.YtnfghboholehdaaGreatDoorKA3
import Derived.Test.YtnfghboholehdaaGreatDoorKB0
import Derived.Test.YtnfghboholehdaaGreatDoorKD0
import Derived.Test.YtnfghboholehdaaGreatDoorKE0
namespace Go.Proofs.YtnfghboholehdaaGreatDoor.foldWrites
open Go.Proofs.YtnfghboholehdaaGreatDoor.Am
noncomputable section
def tblF : List (Nat × List Known) := [(59, [k556, k610]), (30, [k611]), (57, [k612, k613, k614, k615, k616, k617, k618, k619, k620, k621, k622, k623, k624, k625, k626, k627, k628, k629, k630, k631, k632, k633, k634, k635, k636, k637, k638, k639, k640, k641, k642, k643, k644, k645, k646, k647, k648, k649, k650, k651, k652, k653, k654, k655, k656, k657, k658, k659, k660, k661, k662, k663, k664, k665, k666, k667, k670, k672, k675, k677, k678, k682, k685, k688, k691, k692, k694, k696, k701, k703, k706, k711, k714, k715, k717, k719, k722, k723, k724, k726, k728, k731, k733, k735, k738, k739, k741, k743, k745, k748, k751, k753, k756, k762, k765, k767, k770])]
def tblFB : List (Nat × List Known) := [(58, [k668, k669, k671, k673, k674, k676, k679, k680, k681, k683, k684, k686, k687, k689, k690, k693, k695, k697, k698, k699, k700, k702, k704, k705, k707, k708, k709, k710, k712, k713, k716, k718, k720, k721, k725, k727, k729, k730, k732, k734, k736, k737, k740, k742, k744, k746, k747, k749, k750, k752, k754, k755, k757, k758, k759, k760, k761, k763, k764, k766, k768, k769, k771, k772, k773, k774, k775])]
def orcF : Nat → Am.AV → Am.H → Option Am.Res := Am.orc2 (Am.orcT [] tblF) (Am.orcT tabsB tblFB)
theorem orcFOk : Am.OrcOk Tryz.prog (Am.gOfO Tryz.prog ext orcF) := Am.orc2_ok (Am.orcT_ok (kt_cons (kn_cons k556Ok (kn_cons k610Ok kn_nil)) (kt_cons (kn_cons k611Ok kn_nil) (kt_cons (kn_cons k612Ok (kn_cons k613Ok (kn_cons k614Ok (kn_cons k615Ok (kn_cons k616Ok (kn_cons k617Ok (kn_cons k618Ok (kn_cons k619Ok (kn_cons k620Ok (kn_cons k621Ok (kn_cons k622Ok (kn_cons k623Ok (kn_cons k624Ok (kn_cons k625Ok (kn_cons k626Ok (kn_cons k627Ok (kn_cons k628Ok (kn_cons k629Ok (kn_cons k630Ok (kn_cons k631Ok (kn_cons k632Ok (kn_cons k633Ok (kn_cons k634Ok (kn_cons k635Ok (kn_cons k636Ok (kn_cons k637Ok (kn_cons k638Ok (kn_cons k639Ok (kn_cons k640Ok (kn_cons k641Ok (kn_cons k642Ok (kn_cons k643Ok (kn_cons k644Ok (kn_cons k645Ok (kn_cons k646Ok (kn_cons k647Ok (kn_cons k648Ok (kn_cons k649Ok (kn_cons k650Ok (kn_cons k651Ok (kn_cons k652Ok (kn_cons k653Ok (kn_cons k654Ok (kn_cons k655Ok (kn_cons k656Ok (kn_cons k657Ok (kn_cons k658Ok (kn_cons k659Ok (kn_cons k660Ok (kn_cons k661Ok (kn_cons k662Ok (kn_cons k663Ok (kn_cons k664Ok (kn_cons k665Ok (kn_cons k666Ok (kn_cons k667Ok (kn_cons k670Ok (kn_cons k672Ok (kn_cons k675Ok (kn_cons k677Ok (kn_cons k678Ok (kn_cons k682Ok (kn_cons k685Ok (kn_cons k688Ok (kn_cons k691Ok (kn_cons k692Ok (kn_cons k694Ok (kn_cons k696Ok (kn_cons k701Ok (kn_cons k703Ok (kn_cons k706Ok (kn_cons k711Ok (kn_cons k714Ok (kn_cons k715Ok (kn_cons k717Ok (kn_cons k719Ok (kn_cons k722Ok (kn_cons k723Ok (kn_cons k724Ok (kn_cons k726Ok (kn_cons k728Ok (kn_cons k731Ok (kn_cons k733Ok (kn_cons k735Ok (kn_cons k738Ok (kn_cons k739Ok (kn_cons k741Ok (kn_cons k743Ok (kn_cons k745Ok (kn_cons k748Ok (kn_cons k751Ok (kn_cons k753Ok (kn_cons k756Ok (kn_cons k762Ok (kn_cons k765Ok (kn_cons k767Ok (kn_cons k770Ok kn_nil))))))))))))))))))))))))))))))))))))))))))))))))))))))))))))))))))))))))))))))))))))))))))))))))) Am.kt_nil)))) (Am.orcT_ok (kt_cons (kn_cons k668Ok (kn_cons k669Ok (kn_cons k671Ok (kn_cons k673Ok (kn_cons k674Ok (kn_cons k676Ok (kn_cons k679Ok (kn_cons k680Ok (kn_cons k681Ok (kn_cons k683Ok (kn_cons k684Ok (kn_cons k686Ok (kn_cons k687Ok (kn_cons k689Ok (kn_cons k690Ok (kn_cons k693Ok (kn_cons k695Ok (kn_cons k697Ok (kn_cons k698Ok (kn_cons k699Ok (kn_cons k700Ok (kn_cons k702Ok (kn_cons k704Ok (kn_cons k705Ok (kn_cons k707Ok (kn_cons k708Ok (kn_cons k709Ok (kn_cons k710Ok (kn_cons k712Ok (kn_cons k713Ok (kn_cons k716Ok (kn_cons k718Ok (kn_cons k720Ok (kn_cons k721Ok (kn_cons k725Ok (kn_cons k727Ok (kn_cons k729Ok (kn_cons k730Ok (kn_cons k732Ok (kn_cons k734Ok (kn_cons k736Ok (kn_cons k737Ok (kn_cons k740Ok (kn_cons k742Ok (kn_cons k744Ok (kn_cons k746Ok (kn_cons k747Ok (kn_cons k749Ok (kn_cons k750Ok (kn_cons k752Ok (kn_cons k754Ok (kn_cons k755Ok (kn_cons k757Ok (kn_cons k758Ok (kn_cons k759Ok (kn_cons k760Ok (kn_cons k761Ok (kn_cons k763Ok (kn_cons k764Ok (kn_cons k766Ok (kn_cons k768Ok (kn_cons k769Ok (kn_cons k771Ok (kn_cons k772Ok (kn_cons k773Ok (kn_cons k774Ok (kn_cons k775Ok kn_nil))))))))))))))))))))))))))))))))))))))))))))))))))))))))))))))))))) Am.kt_nil))
theorem oneA_orcF {e : Known} (R : List Nat) (h : Am.and2 (Am.fnOf Tryz.prog e.f).isSome (Am.and2 (orcF e.f e.args (Am.tabH [])).isNone (Am.chkK e R ((Am.run (Am.gOfO Tryz.prog ext orcF) (Nat.succ 3999)).call e.f e.args (Am.tabH [])))) = true) : Am.OneOk Tryz.prog [] e := by
 obtain ⟨h1, h2⟩ := Am.and2_ok h
 obtain ⟨h3, h4⟩ := Am.and2_ok h2
 exact Am.one_of_run (N := 3999) mixed progOk (extOk _) orcFOk h1 (Option.isNone_iff_eq_none.1 h3) (by kernel_rfl) h4
theorem oneB_orcF {e : Known} (R : List Nat) (h : Am.and2 (Am.fnOf Tryz.prog e.f).isSome (Am.and2 (orcF e.f e.args (Am.tabH tabsB)).isNone (Am.chkK e R ((Am.run (Am.gOfO Tryz.prog ext orcF) (Nat.succ 3999)).call e.f e.args (Am.tabH tabsB)))) = true) : Am.OneOk Tryz.prog tabsB e := by
 obtain ⟨h1, h2⟩ := Am.and2_ok h
 obtain ⟨h3, h4⟩ := Am.and2_ok h2
 exact Am.one_of_run (N := 3999) mixed progOk (extOk _) orcFOk h1 (Option.isNone_iff_eq_none.1 h3) (by kernel_rfl) h4
def k776 : Known := ⟨17, (S 3 15707265 .nil), (.tup (S 2 26217 (Q 64 0 2 1 .nil))), [.cells 3 (I .i64 0 (I .i64 0 .nil))]⟩
set_option maxRecDepth 1000000 in
theorem k776Ok : Am.OneOk Tryz.prog tabsB k776 := oneB_orcF [240] (by kernel_rfl)
def k777 : Known := ⟨12, (S 8 6004514643716031864 (S 7 32497656937029477 .nil)), (.tup (I .i64 7 (T .nil))), []⟩
set_option maxRecDepth 1000000 in
theorem k777Ok : Am.OneOk Tryz.prog tabsB k777 := oneB_orcF [] (by kernel_rfl)
def k778 : Known := ⟨19, (S 7 32497656937029477 .nil), (.str ⟨7, 23455135327015749⟩), []⟩
set_option maxRecDepth 1000000 in
theorem k778Ok : Am.OneOk Tryz.prog tabsB k778 := oneB_orcF [] (by kernel_rfl)
def k779 : Known := ⟨20, (S 7 23455135327015749 .nil), (.str ⟨7, 32497656931775333⟩), []⟩
set_option maxRecDepth 1000000 in
theorem k779Ok : Am.OneOk Tryz.prog tabsB k779 := oneB_orcF [] (by kernel_rfl)
def k780 : Known := ⟨20, (S 7 32497656937029477 .nil), (.str ⟨7, 32497656931775333⟩), []⟩
set_option maxRecDepth 1000000 in
theorem k780Ok : Am.OneOk Tryz.prog tabsB k780 := oneB_orcF [] (by kernel_rfl)
def k781 : Known := ⟨9, (S 5 418258117444 .nil), (.str ⟨5, 280819155812⟩), []⟩
set_option maxRecDepth 1000000 in
theorem k781Ok : Am.OneOk Tryz.prog tabsB k781 := oneB_orcF [] (by kernel_rfl)
end
end Go.Proofs.YtnfghboholehdaaGreatDoor.foldWrites
