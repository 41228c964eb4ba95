/- FoldWrites's closed run: calls at blocks that are there. -/
import Derived.Test.YtnfghboholehdaaGreatDoorTL
namespace Go.Proofs.YtnfghboholehdaaGreatDoor.foldWrites
open Go.Proofs.YtnfghboholehdaaGreatDoor.Am
noncomputable section
def b0 : Am.TB := .cells 153 (Q 82 0 14 1 (Z (T (F .nil))))
def b1 : Am.TB := .cells 9 (S 5 341255415154 (S 2 17234 (S 2 19526 (S 7 18981343630356332 (S 6 76383651196516 (S 3 5920586 (S 4 1298231915 (S 7 22643778139811428 (S 1 76 (S 1 86 (S 1 84 (S 1 72 (S 4 1349084020 (S 4 1181507943 .nil))))))))))))))
def b2 : Am.TB := .cells 153 (Q 82 0 14 1 (Q 114 0 1 9 (T (F .nil))))
def b3 : Am.TB := .cells 201 (F (F (F (I .i64 1 (Q 93 0 1 1 (Z (I .i64 1 (Q 106 0 1 1 (Z .nil)))))))))
def m0_0 : Am.Memo := ⟨111, (.cons (.ptr 84 0) (S 7 18949122948090950 .nil)), 86, [(84, b0), (82, b1)], (J .i64 0), 115, [(84, b2), (114, b3)], [84]⟩
theorem m0_0Ok : Am.OneM Tryz.prog m0_0 := mem_orcL (by kernel_rfl)
def b4 : Am.TB := .cells 153 (Q 82 0 14 1 (Q 163 0 2 9 (T (F .nil))))
def b5 : Am.TB := .cells 201 (F (F (F (I .i64 1 (Q 93 0 1 1 (Z (I .i64 1 (Q 106 0 1 1 (Z (T (F (F (I .i64 3 (Z (Q 147 0 3 3 (I .i64 0 (Z (Z .nil))))))))))))))))))
def m0_1 : Am.Memo := ⟨111, (.cons (.ptr 84 0) (S 21 58844399365818688134661636594989633187334607937583 .nil)), 115, [(84, b2), (114, b3), (82, b1)], (J .i64 0), 164, [(84, b4), (163, b5)], [84, 114]⟩
theorem m0_1Ok : Am.OneM Tryz.prog m0_1 := mem_orcL (by kernel_rfl)
def b6 : Am.TB := .cells 153 (Q 82 0 14 1 (Q 212 0 3 9 (T (F .nil))))
def b7 : Am.TB := .cells 201 (F (F (F (I .i64 1 (Q 93 0 1 1 (Z (I .i64 1 (Q 106 0 1 1 (Z (T (F (F (I .i64 3 (Z (Q 147 0 3 3 (I .i64 0 (Z (Z (T (F (F (I .i64 0 (Z (Z (I .i64 3 (Z (Q 203 0 3 3 .nil)))))))))))))))))))))))))))
def m0_2 : Am.Memo := ⟨111, (.cons (.ptr 84 0) (S 21 68874162553496232556483515015262451278843000876073 .nil)), 164, [(84, b4), (163, b5), (82, b1)], (J .i64 0), 213, [(84, b6), (212, b7)], [84, 163]⟩
theorem m0_2Ok : Am.OneM Tryz.prog m0_2 := mem_orcL (by kernel_rfl)
def b8 : Am.TB := .cells 153 (Q 82 0 14 1 (Q 267 0 4 9 (T (F .nil))))
def b9 : Am.TB := .cells 201 (F (F (F (I .i64 1 (Q 93 0 1 1 (Z (I .i64 1 (Q 106 0 1 1 (Z (T (F (F (I .i64 3 (Z (Q 147 0 3 3 (I .i64 0 (Z (Z (T (F (F (I .i64 0 (Z (Z (I .i64 3 (Z (Q 203 0 3 3 (F (F (F (I .i64 1 (Q 220 0 1 1 (Z (I .i64 3 (Z (Q 258 0 3 3 .nil))))))))))))))))))))))))))))))))))))
def m0_3 : Am.Memo := ⟨111, (.cons (.ptr 84 0) (S 15 395273591056677396688800195001993257 .nil)), 213, [(84, b6), (212, b7), (82, b1)], (J .i64 0), 268, [(84, b8), (267, b9)], [84, 212]⟩
theorem m0_3Ok : Am.OneM Tryz.prog m0_3 := mem_orcL (by kernel_rfl)
def b10 : Am.TB := .cells 153 (Q 82 0 14 1 (Q 330 0 5 9 (T (F .nil))))
def b11 : Am.TB := .cells 201 (F (F (F (I .i64 1 (Q 93 0 1 1 (Z (I .i64 1 (Q 106 0 1 1 (Z (T (F (F (I .i64 3 (Z (Q 147 0 3 3 (I .i64 0 (Z (Z (T (F (F (I .i64 0 (Z (Z (I .i64 3 (Z (Q 203 0 3 3 (F (F (F (I .i64 1 (Q 220 0 1 1 (Z (I .i64 3 (Z (Q 258 0 3 3 (F (F (F (I .i64 3 (Z (Q 291 0 2 3 (I .i64 3 (Z (Q 321 0 2 3 .nil)))))))))))))))))))))))))))))))))))))))))))))
def m0_4 : Am.Memo := ⟨111, (.cons (.ptr 84 0) (S 17 13725776955550939111460491499356140098601 .nil)), 268, [(84, b8), (267, b9), (82, b1)], (J .i64 0), 331, [(84, b10), (330, b11)], [84, 267]⟩
theorem m0_4Ok : Am.OneM Tryz.prog m0_4 := mem_orcL (by kernel_rfl)
def b12 : Am.TB := .cells 153 (Q 82 0 14 1 (Q 359 0 6 9 (T (F .nil))))
def b13 : Am.TB := .cells 201 (F (F (F (I .i64 1 (Q 93 0 1 1 (Z (I .i64 1 (Q 106 0 1 1 (Z (T (F (F (I .i64 3 (Z (Q 147 0 3 3 (I .i64 0 (Z (Z (T (F (F (I .i64 0 (Z (Z (I .i64 3 (Z (Q 203 0 3 3 (F (F (F (I .i64 1 (Q 220 0 1 1 (Z (I .i64 3 (Z (Q 258 0 3 3 (F (F (F (I .i64 3 (Z (Q 291 0 2 3 (I .i64 3 (Z (Q 321 0 2 3 (F (F (F (I .i64 1 (Q 338 0 1 1 (Z (I .i64 1 (Q 351 0 1 1 (Z .nil))))))))))))))))))))))))))))))))))))))))))))))))))))))
def m0_5 : Am.Memo := ⟨111, (.cons (.ptr 84 0) (S 5 361322389588 .nil)), 331, [(84, b10), (330, b11), (82, b1)], (J .i64 0), 360, [(84, b12), (359, b13)], [84, 330]⟩
theorem m0_5Ok : Am.OneM Tryz.prog m0_5 := mem_orcL (by kernel_rfl)
def b14 : Am.TB := .cells 153 (Q 82 0 14 1 (Q 408 0 7 9 (T (F .nil))))
def b15 : Am.TB := .cells 201 (F (F (F (I .i64 1 (Q 93 0 1 1 (Z (I .i64 1 (Q 106 0 1 1 (Z (T (F (F (I .i64 3 (Z (Q 147 0 3 3 (I .i64 0 (Z (Z (T (F (F (I .i64 0 (Z (Z (I .i64 3 (Z (Q 203 0 3 3 (F (F (F (I .i64 1 (Q 220 0 1 1 (Z (I .i64 3 (Z (Q 258 0 3 3 (F (F (F (I .i64 3 (Z (Q 291 0 2 3 (I .i64 3 (Z (Q 321 0 2 3 (F (F (F (I .i64 1 (Q 338 0 1 1 (Z (I .i64 1 (Q 351 0 1 1 (Z (F (F (F (I .i64 0 (Z (Z (I .i64 3 (Z (Q 399 0 3 3 .nil)))))))))))))))))))))))))))))))))))))))))))))))))))))))))))))))
def m0_6 : Am.Memo := ⟨111, (.cons (.ptr 84 0) (S 23 12080433862403974903485348818425070452606949180495260457 .nil)), 360, [(84, b12), (359, b13), (82, b1)], (J .i64 0), 409, [(84, b14), (408, b15)], [84, 359]⟩
theorem m0_6Ok : Am.OneM Tryz.prog m0_6 := mem_orcL (by kernel_rfl)
def b16 : Am.TB := .cells 153 (Q 82 0 14 1 (Q 431 0 8 9 (T (F .nil))))
def b17 : Am.TB := .cells 201 (F (F (F (I .i64 1 (Q 93 0 1 1 (Z (I .i64 1 (Q 106 0 1 1 (Z (T (F (F (I .i64 3 (Z (Q 147 0 3 3 (I .i64 0 (Z (Z (T (F (F (I .i64 0 (Z (Z (I .i64 3 (Z (Q 203 0 3 3 (F (F (F (I .i64 1 (Q 220 0 1 1 (Z (I .i64 3 (Z (Q 258 0 3 3 (F (F (F (I .i64 3 (Z (Q 291 0 2 3 (I .i64 3 (Z (Q 321 0 2 3 (F (F (F (I .i64 1 (Q 338 0 1 1 (Z (I .i64 1 (Q 351 0 1 1 (Z (F (F (F (I .i64 0 (Z (Z (I .i64 3 (Z (Q 399 0 3 3 (F (F (F (I .i64 1 (Q 416 0 1 1 (Z (I .i64 0 (Z (Z .nil))))))))))))))))))))))))))))))))))))))))))))))))))))))))))))))))))))))))
def m0_7 : Am.Memo := ⟨111, (.cons (.ptr 84 0) (S 9 1483982644170681753726 .nil)), 409, [(84, b14), (408, b15), (82, b1)], (J .i64 0), 432, [(84, b16), (431, b17)], [84, 408]⟩
theorem m0_7Ok : Am.OneM Tryz.prog m0_7 := mem_orcL (by kernel_rfl)
def b18 : Am.TB := .cells 153 (Q 82 0 14 1 (Q 473 0 9 9 (T (F .nil))))
def b19 : Am.TB := .cells 201 (F (F (F (I .i64 1 (Q 93 0 1 1 (Z (I .i64 1 (Q 106 0 1 1 (Z (T (F (F (I .i64 3 (Z (Q 147 0 3 3 (I .i64 0 (Z (Z (T (F (F (I .i64 0 (Z (Z (I .i64 3 (Z (Q 203 0 3 3 (F (F (F (I .i64 1 (Q 220 0 1 1 (Z (I .i64 3 (Z (Q 258 0 3 3 (F (F (F (I .i64 3 (Z (Q 291 0 2 3 (I .i64 3 (Z (Q 321 0 2 3 (F (F (F (I .i64 1 (Q 338 0 1 1 (Z (I .i64 1 (Q 351 0 1 1 (Z (F (F (F (I .i64 0 (Z (Z (I .i64 3 (Z (Q 399 0 3 3 (F (F (F (I .i64 1 (Q 416 0 1 1 (Z (I .i64 0 (Z (Z (F (F (F (I .i64 2 (Z (Q 455 0 3 3 (I .i64 1 (Q 465 0 1 1 (Z .nil)))))))))))))))))))))))))))))))))))))))))))))))))))))))))))))))))))))))))))))))))
def m0_8 : Am.Memo := ⟨111, (.cons (.ptr 84 0) (S 23 7701908219965599719870747564733858600409404640607167348 .nil)), 432, [(84, b16), (431, b17), (82, b1)], (J .i64 0), 474, [(84, b18), (473, b19)], [84, 431]⟩
theorem m0_8Ok : Am.OneM Tryz.prog m0_8 := mem_orcL (by kernel_rfl)
def b20 : Am.TB := .cells 153 (Q 82 0 14 1 (Q 523 0 10 9 (T (F .nil))))
def b21 : Am.TB := .cells 201 (F (F (F (I .i64 1 (Q 93 0 1 1 (Z (I .i64 1 (Q 106 0 1 1 (Z (T (F (F (I .i64 3 (Z (Q 147 0 3 3 (I .i64 0 (Z (Z (T (F (F (I .i64 0 (Z (Z (I .i64 3 (Z (Q 203 0 3 3 (F (F (F (I .i64 1 (Q 220 0 1 1 (Z (I .i64 3 (Z (Q 258 0 3 3 (F (F (F (I .i64 3 (Z (Q 291 0 2 3 (I .i64 3 (Z (Q 321 0 2 3 (F (F (F (I .i64 1 (Q 338 0 1 1 (Z (I .i64 1 (Q 351 0 1 1 (Z (F (F (F (I .i64 0 (Z (Z (I .i64 3 (Z (Q 399 0 3 3 (F (F (F (I .i64 1 (Q 416 0 1 1 (Z (I .i64 0 (Z (Z (F (F (F (I .i64 2 (Z (Q 455 0 3 3 (I .i64 1 (Q 465 0 1 1 (Z (F (T (F (I .i64 2 (Z (Q 505 0 2 3 (I .i64 1 (Q 515 0 1 1 (Z .nil))))))))))))))))))))))))))))))))))))))))))))))))))))))))))))))))))))))))))))))))))))))))))
def m0_9 : Am.Memo := ⟨111, (.cons (.ptr 84 0) (S 26 151254030958241556816074169257097484720035107833660866716000615 .nil)), 474, [(84, b18), (473, b19), (82, b1)], (J .i64 0), 524, [(84, b20), (523, b21)], [84, 473]⟩
theorem m0_9Ok : Am.OneM Tryz.prog m0_9 := mem_orcL (by kernel_rfl)
def b22 : Am.TB := .cells 153 (Q 82 0 14 1 (Q 607 0 11 9 (T (F .nil))))
def b23 : Am.TB := .cells 201 (F (F (F (I .i64 1 (Q 93 0 1 1 (Z (I .i64 1 (Q 106 0 1 1 (Z (T (F (F (I .i64 3 (Z (Q 147 0 3 3 (I .i64 0 (Z (Z (T (F (F (I .i64 0 (Z (Z (I .i64 3 (Z (Q 203 0 3 3 (F (F (F (I .i64 1 (Q 220 0 1 1 (Z (I .i64 3 (Z (Q 258 0 3 3 (F (F (F (I .i64 3 (Z (Q 291 0 2 3 (I .i64 3 (Z (Q 321 0 2 3 (F (F (F (I .i64 1 (Q 338 0 1 1 (Z (I .i64 1 (Q 351 0 1 1 (Z (F (F (F (I .i64 0 (Z (Z (I .i64 3 (Z (Q 399 0 3 3 (F (F (F (I .i64 1 (Q 416 0 1 1 (Z (I .i64 0 (Z (Z (F (F (F (I .i64 2 (Z (Q 455 0 3 3 (I .i64 1 (Q 465 0 1 1 (Z (F (T (F (I .i64 2 (Z (Q 505 0 2 3 (I .i64 1 (Q 515 0 1 1 (Z (F (F (F (I .i64 2 (Z (Q 589 0 3 3 (I .i64 1 (Q 599 0 1 1 (Z .nil)))))))))))))))))))))))))))))))))))))))))))))))))))))))))))))))))))))))))))))))))))))))))))))))))))
def m0_10 : Am.Memo := ⟨111, (.cons (.ptr 84 0) (S 33 10579654553512850061423626972773299047668823489349604138782277225433550608425319 .nil)), 524, [(84, b20), (523, b21), (82, b1)], (J .i64 0), 608, [(84, b22), (607, b23)], [84, 523]⟩
theorem m0_10Ok : Am.OneM Tryz.prog m0_10 := mem_orcL (by kernel_rfl)
def m0_11 : Am.Memo := ⟨111, (.cons (.ptr 84 0) (S 0 0 .nil)), 608, [(84, b22), (607, b23), (82, b1)], (J .i64 0), 608, [], []⟩
theorem m0_11Ok : Am.OneM Tryz.prog m0_11 := mem_orcL (by kernel_rfl)
end
end Go.Proofs.YtnfghboholehdaaGreatDoor.foldWrites
