/- FoldTitles's closed run: calls at blocks that are there. -/
import Derived.Test.YtocaiijbhepnnaaGreatDoorM0a
namespace Go.Proofs.YtocaiijbhepnnaaGreatDoor.foldTitles
open Go.Proofs.YtocaiijbhepnnaaGreatDoor.Am
noncomputable section
def b46:Am.TB:= .cells 184 (Q 82 0 14 1 (Q 630 0 11 9 (T (F .nil))))
def b47:Am.TB:= .cells 3 (I .i64 0 (I .i64 1 (I .i64 2 (I .i64 3 (I .i64 4 (I .i64 5 (I .i64 6 (I .i64 7 (I .i64 8 (I .i64 9 (I .i64 10 (I .i64 11 (I .i64 12 .nil)))))))))))))
def b48:Am.TB:= .cells 201 (I .i64 1 (Q 591 0 1 1 (Z (I .i64 1 (Q 597 0 1 1 (Z .nil))))))
def b49:Am.TB:= .cells 201 (I .i64 2 (Z (Q 600 0 2 3 .nil)))
def b50:Am.TB:= .cells 201 (I .i64 1 (Q 582 0 13 1 (Z (I .i64 4 (Z (Q 604 0 1 3 (I .i64 1 (Q 609 0 1 1 (Z .nil)))))))))
def c10 (t:Am.AV):Am.AV:=c9 (F (F (F (I .i64 2 (Z (Q 612 0 3 3 (I .i64 1 (Q 622 0 1 1 (Z t)))))))))
def b51:Am.TB:= .cells 203 (c10 .nil)
def afJ:List Am.jk:=[⟨124,(.cons (.ptr 84 0) (S 33 0x5b5e20466c61675d2028466c616720466c6167292a20466c6167207e20466c6167 .nil)),547,[(84,b40),(546,b45),(82,b1)],(J .i64 0),631,[(84,b46),(582,b47),(591,b41),(597,b41),(600,b48),(604,b49),(609,b41),(612,b50),(622,b41),(630,b51)],[84,546]⟩,⟨124,(.cons (.ptr 84 0) (S 0 0 .nil)),631,[(84,b46),(630,b51),(82,b1)],(J .i64 0),631,[],[]⟩]
set_option maxRecDepth 1000000 in
theorem acu:∀e∈afJ,Am.xD Tryz.prog e:=oM uQ (by kernel_rfl)
