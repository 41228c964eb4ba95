/- FoldWrites's closed run: calls at blocks that are there. -/
import Derived.Test.YtnfghboholehdaaGreatDoorTL
import Derived.Test.YtnfghboholehdaaGreatDoorM0a
namespace Go.Proofs.YtnfghboholehdaaGreatDoor.foldWrites
open Go.Proofs.YtnfghboholehdaaGreatDoor.Am
noncomputable section
def b40 : Am.TB := .cells 153 (Q 634 0 20 1 (Z (T (F .nil))))
def b41 : Am.TB := .cells 9 (S 5 341255415154 (S 2 17266 (S 2 19558 (S 7 22066611777793637 (S 6 76383651196516 (S 3 5928810 (S 6 77444475085172 (S 6 90595480137582 (S 8 5431750587347725921 (S 6 79600280561015 (S 6 83998629193074 (S 5 349862589541 (S 6 75245501443173 (S 9 1427993574813540836724 (S 9 1427993572545918166386 (S 6 85115049768301 (S 5 293826161012 (S 3 5009271 (S 5 358367716197 (S 4 1349084020 .nil))))))))))))))))))))
def b42 : Am.TB := .cells 153 (Q 634 0 20 1 (Q 666 0 1 9 (T (F .nil))))
def b43 : Am.TB := .cells 201 (F (F (F (I .i64 1 (Q 645 0 1 1 (Z (I .i64 1 (Q 658 0 1 1 (Z .nil)))))))))
def m1_0 : Am.Memo := ⟨111, (.cons (.ptr 636 0) (S 7 18984307320179814 .nil)), 638, [(636, b40), (634, b41)], (J .i64 0), 667, [(636, b42), (666, b43)], [636]⟩
theorem m1_0Ok : Am.OneM Tryz.prog m1_0 := mem_orcL (by kernel_rfl)
def b44 : Am.TB := .cells 153 (Q 634 0 20 1 (Q 697 0 2 9 (T (F .nil))))
def b45 : Am.TB := .cells 201 (F (F (F (I .i64 1 (Q 645 0 1 1 (Z (I .i64 1 (Q 658 0 1 1 (Z (T (F (F (I .i64 1 (Q 682 0 3 1 (Z (I .i64 0 (Z (Z .nil))))))))))))))))))
def m1_1 : Am.Memo := ⟨111, (.cons (.ptr 636 0) (S 17 31069902017655349402358966121026260115503 .nil)), 667, [(636, b42), (666, b43), (634, b41)], (J .i64 0), 698, [(636, b44), (697, b45)], [636, 666]⟩
theorem m1_1Ok : Am.OneM Tryz.prog m1_1 := mem_orcL (by kernel_rfl)
def b46 : Am.TB := .cells 153 (Q 634 0 20 1 (Q 728 0 3 9 (T (F .nil))))
def b47 : Am.TB := .cells 201 (F (F (F (I .i64 1 (Q 645 0 1 1 (Z (I .i64 1 (Q 658 0 1 1 (Z (T (F (F (I .i64 1 (Q 682 0 3 1 (Z (I .i64 0 (Z (Z (T (F (F (I .i64 0 (Z (Z (I .i64 1 (Q 720 0 3 1 (Z .nil)))))))))))))))))))))))))))
def m1_2 : Am.Memo := ⟨111, (.cons (.ptr 636 0) (S 17 16036280630230305036838883706126023288413 .nil)), 698, [(636, b44), (697, b45), (634, b41)], (J .i64 0), 729, [(636, b46), (728, b47)], [636, 697]⟩
theorem m1_2Ok : Am.OneM Tryz.prog m1_2 := mem_orcL (by kernel_rfl)
def b48 : Am.TB := .cells 153 (Q 634 0 20 1 (Q 757 0 4 9 (T (F .nil))))
def b49 : Am.TB := .cells 201 (F (F (F (I .i64 1 (Q 645 0 1 1 (Z (I .i64 1 (Q 658 0 1 1 (Z (T (F (F (I .i64 1 (Q 682 0 3 1 (Z (I .i64 0 (Z (Z (T (F (F (I .i64 0 (Z (Z (I .i64 1 (Q 720 0 3 1 (Z (F (F (F (I .i64 1 (Q 736 0 1 1 (Z (I .i64 1 (Q 749 0 1 1 (Z .nil))))))))))))))))))))))))))))))))))))
def m1_3 : Am.Memo := ⟨111, (.cons (.ptr 636 0) (S 10 427215793253884034114420 .nil)), 729, [(636, b46), (728, b47), (634, b41)], (J .i64 0), 758, [(636, b48), (757, b49)], [636, 728]⟩
theorem m1_3Ok : Am.OneM Tryz.prog m1_3 := mem_orcL (by kernel_rfl)
def b50 : Am.TB := .cells 153 (Q 634 0 20 1 (Q 786 0 5 9 (T (F .nil))))
def b51 : Am.TB := .cells 201 (F (F (F (I .i64 1 (Q 645 0 1 1 (Z (I .i64 1 (Q 658 0 1 1 (Z (T (F (F (I .i64 1 (Q 682 0 3 1 (Z (I .i64 0 (Z (Z (T (F (F (I .i64 0 (Z (Z (I .i64 1 (Q 720 0 3 1 (Z (F (F (F (I .i64 1 (Q 736 0 1 1 (Z (I .i64 1 (Q 749 0 1 1 (Z (F (F (F (I .i64 1 (Q 765 0 1 1 (Z (I .i64 1 (Q 778 0 1 1 (Z .nil)))))))))))))))))))))))))))))))))))))))))))))
def m1_4 : Am.Memo := ⟨111, (.cons (.ptr 636 0) (S 13 6610717544968177586929829765989 .nil)), 758, [(636, b48), (757, b49), (634, b41)], (J .i64 0), 787, [(636, b50), (786, b51)], [636, 757]⟩
theorem m1_4Ok : Am.OneM Tryz.prog m1_4 := mem_orcL (by kernel_rfl)
def b52 : Am.TB := .cells 153 (Q 634 0 20 1 (Q 817 0 6 9 (T (F .nil))))
def b53 : Am.TB := .cells 201 (F (F (F (I .i64 1 (Q 645 0 1 1 (Z (I .i64 1 (Q 658 0 1 1 (Z (T (F (F (I .i64 1 (Q 682 0 3 1 (Z (I .i64 0 (Z (Z (T (F (F (I .i64 0 (Z (Z (I .i64 1 (Q 720 0 3 1 (Z (F (F (F (I .i64 1 (Q 736 0 1 1 (Z (I .i64 1 (Q 749 0 1 1 (Z (F (F (F (I .i64 1 (Q 765 0 1 1 (Z (I .i64 1 (Q 778 0 1 1 (Z (F (F (F (I .i64 0 (Z (Z (I .i64 1 (Q 809 0 3 1 (Z .nil))))))))))))))))))))))))))))))))))))))))))))))))))))))
def m1_5 : Am.Memo := ⟨111, (.cons (.ptr 636 0) (S 21 184333929427909527275606887092730675211921327090269 .nil)), 787, [(636, b50), (786, b51), (634, b41)], (J .i64 0), 818, [(636, b52), (817, b53)], [636, 786]⟩
theorem m1_5Ok : Am.OneM Tryz.prog m1_5 := mem_orcL (by kernel_rfl)
def b54 : Am.TB := .cells 153 (Q 634 0 20 1 (Q 873 0 7 9 (T (F .nil))))
def b55 : Am.TB := .cells 201 (F (F (F (I .i64 1 (Q 645 0 1 1 (Z (I .i64 1 (Q 658 0 1 1 (Z (T (F (F (I .i64 1 (Q 682 0 3 1 (Z (I .i64 0 (Z (Z (T (F (F (I .i64 0 (Z (Z (I .i64 1 (Q 720 0 3 1 (Z (F (F (F (I .i64 1 (Q 736 0 1 1 (Z (I .i64 1 (Q 749 0 1 1 (Z (F (F (F (I .i64 1 (Q 765 0 1 1 (Z (I .i64 1 (Q 778 0 1 1 (Z (F (F (F (I .i64 0 (Z (Z (I .i64 1 (Q 809 0 3 1 (Z (F (F (F (I .i64 2 (Z (Q 849 0 2 3 (I .i64 1 (Q 865 0 2 1 (Z .nil)))))))))))))))))))))))))))))))))))))))))))))))))))))))))))))))
def m1_6 : Am.Memo := ⟨111, (.cons (.ptr 636 0) (S 54 3955318293624729522643293310266308619532893576572476303659328033284639723240379335046931912578095640631492747702304728640691468125 .nil)), 818, [(636, b52), (817, b53), (634, b41)], (J .i64 0), 874, [(636, b54), (873, b55)], [636, 817]⟩
theorem m1_6Ok : Am.OneM Tryz.prog m1_6 := mem_orcL (by kernel_rfl)
def b56 : Am.TB := .cells 153 (Q 634 0 20 1 (Q 958 0 8 9 (T (F .nil))))
def b57 : Am.TB := .cells 201 (F (F (F (I .i64 1 (Q 645 0 1 1 (Z (I .i64 1 (Q 658 0 1 1 (Z (T (F (F (I .i64 1 (Q 682 0 3 1 (Z (I .i64 0 (Z (Z (T (F (F (I .i64 0 (Z (Z (I .i64 1 (Q 720 0 3 1 (Z (F (F (F (I .i64 1 (Q 736 0 1 1 (Z (I .i64 1 (Q 749 0 1 1 (Z (F (F (F (I .i64 1 (Q 765 0 1 1 (Z (I .i64 1 (Q 778 0 1 1 (Z (F (F (F (I .i64 0 (Z (Z (I .i64 1 (Q 809 0 3 1 (Z (F (F (F (I .i64 2 (Z (Q 849 0 2 3 (I .i64 1 (Q 865 0 2 1 (Z (F (F (F (I .i64 2 (Z (Q 905 0 2 3 (I .i64 2 (Z (Q 953 0 3 3 .nil))))))))))))))))))))))))))))))))))))))))))))))))))))))))))))))))))))))))
def m1_7 : Am.Memo := ⟨111, (.cons (.ptr 636 0) (S 103 39896953834013191883468064165764305238508106224117863814754172955768254871452609284385590845126056115201674335132262835205540337597256349294707376627721391704480702331739670707239344324340482179050063781973443188463147506238783218656359010967844701 .nil)), 874, [(636, b54), (873, b55), (634, b41)], (J .i64 0), 959, [(636, b56), (958, b57)], [636, 873]⟩
theorem m1_7Ok : Am.OneM Tryz.prog m1_7 := mem_orcL (by kernel_rfl)
end
end Go.Proofs.YtnfghboholehdaaGreatDoor.foldWrites
