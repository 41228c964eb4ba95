/- FoldTitles's closed run: calls at blocks that are there. -/
import Derived.Test.YtocaiijbhepnnaaGreatDoorM0b
namespace Go.Proofs.YtocaiijbhepnnaaGreatDoor.foldTitles
open Go.Proofs.YtocaiijbhepnnaaGreatDoor.Am
noncomputable section
def b52:Am.TB:= .cells 184 (Q 657 0 20 1 (Z (T (F .nil))))
def Da:Am.TB:= .cells 9 (S 5 341255415154 (S 2 17266 (S 2 19558 (S 7 0x4e65776c696e65 (S 6 76383651196516 (S 3 5928810 (S 6 77444475085172 (S 6 90595480137582 (S 8 0x4b6174616b616e61 (S 6 79600280561015 (S 6 83998629193074 (S 5 349862589541 (S 6 75245501443173 (S 9 0x4d69644e756d4c6574 (S 9 0x4d69644c6574746572 (S 6 85115049768301 (S 5 293826161012 (S 3 5009271 (S 5 358367716197 (S 4 1349084020 .nil))))))))))))))))))))
def b54:Am.TB:= .cells 184 (Q 657 0 20 1 (Q 736 0 1 9 (T (F .nil))))
def c11 (t:Am.AV):Am.AV:=(F (F (F (I .i64 1 (Q 715 0 1 1 (Z (I .i64 1 (Q 728 0 1 1 (Z t)))))))))
def b55:Am.TB:= .cells 203 (c11 .nil)
def b56:Am.TB:= .cells 184 (Q 657 0 20 1 (Q 767 0 2 9 (T (F .nil))))
def b57:Am.TB:= .cells 3 (I .i64 1 (I .i64 2 (I .i64 3 .nil)))
def c12 (t:Am.AV):Am.AV:=c11 (T (F (F (I .i64 1 (Q 752 0 3 1 (Z (I .i64 0 (Z (Z t)))))))))
def b58:Am.TB:= .cells 203 (c12 .nil)
def b59:Am.TB:= .cells 184 (Q 657 0 20 1 (Q 798 0 3 9 (T (F .nil))))
def c13 (t:Am.AV):Am.AV:=c12 (T (F (F (I .i64 0 (Z (Z (I .i64 1 (Q 790 0 3 1 (Z t)))))))))
def b60:Am.TB:= .cells 203 (c13 .nil)
def b61:Am.TB:= .cells 184 (Q 657 0 20 1 (Q 827 0 4 9 (T (F .nil))))
def b62:Am.TB:= .cells 3 (I .i64 19 .nil)
def c14 (t:Am.AV):Am.AV:=c13 (F (F (F (I .i64 1 (Q 806 0 1 1 (Z (I .i64 1 (Q 819 0 1 1 (Z t)))))))))
def b63:Am.TB:= .cells 203 (c14 .nil)
def b64:Am.TB:= .cells 184 (Q 657 0 20 1 (Q 856 0 5 9 (T (F .nil))))
def b65:Am.TB:= .cells 3 (I .i64 18 .nil)
def c15 (t:Am.AV):Am.AV:=c14 (F (F (F (I .i64 1 (Q 835 0 1 1 (Z (I .i64 1 (Q 848 0 1 1 (Z t)))))))))
def b66:Am.TB:= .cells 203 (c15 .nil)
def b67:Am.TB:= .cells 184 (Q 657 0 20 1 (Q 887 0 6 9 (T (F .nil))))
def zG:Am.TB:= .cells 3 (I .i64 4 (I .i64 5 (I .i64 6 .nil)))
def c16 (t:Am.AV):Am.AV:=c15 (F (F (F (I .i64 0 (Z (Z (I .i64 1 (Q 879 0 3 1 (Z t)))))))))
def b69:Am.TB:= .cells 203 (c16 .nil)
def b70:Am.TB:= .cells 184 (Q 657 0 20 1 (Q 943 0 7 9 (T (F .nil))))
def b71:Am.TB:= .cells 3 (I .i64 9 (I .i64 10 .nil))
def b72:Am.TB:= .cells 201 (I .i64 1 (Q 915 0 3 1 (Z .nil)))
def b73:Am.TB:= .cells 201 (I .i64 1 (Q 901 0 2 1 (Z (I .i64 4 (Z (Q 917 0 1 3 .nil))))))
def c17 (t:Am.AV):Am.AV:=c16 (F (F (F (I .i64 2 (Z (Q 919 0 2 3 (I .i64 1 (Q 935 0 2 1 (Z t)))))))))
def b74:Am.TB:= .cells 203 (c17 .nil)
def afK:List Am.jk:=[⟨124,(.cons (.ptr 659 0) (S 7 0x4372207e204c66 .nil)),708,[(659,b52),(657,Da)],(J .i64 0),737,[(659,b54),(715,b3),(728,b4),(736,b55)],[659]⟩,⟨124,(.cons (.ptr 659 0) (S 17 0x5b4e65776c696e65204372204c665d202f .nil)),737,[(659,b54),(736,b55),(657,Da)],(J .i64 0),768,[(659,b56),(752,b57),(767,b58)],[659,736]⟩,⟨124,(.cons (.ptr 659 0) (S 17 0x2f205b4e65776c696e65204372204c665d .nil)),768,[(659,b56),(767,b58),(657,Da)],(J .i64 0),799,[(659,b59),(790,b57),(798,b60)],[659,767]⟩,⟨124,(.cons (.ptr 659 0) (S 10 0x5a776a207e2050696374 .nil)),799,[(659,b59),(798,b60),(657,Da)],(J .i64 0),828,[(659,b61),(806,b28),(819,b62),(827,b63)],[659,798]⟩,⟨124,(.cons (.ptr 659 0) (S 13 0x5370616365207e205370616365 .nil)),828,[(659,b61),(827,b63),(657,Da)],(J .i64 0),857,[(659,b64),(835,b65),(848,b65),(856,b66)],[659,827]⟩,⟨124,(.cons (.ptr 659 0) (S 21 0x7e205b457874656e6420466f726d6174205a776a5d .nil)),857,[(659,b64),(856,b66),(657,Da)],(J .i64 0),888,[(659,b67),(879,zG),(887,b69)],[659,856]⟩,⟨124,(.cons (.ptr 659 0) (S 54 0x5b4c6574746572204865627265775d205b457874656e6420466f726d6174205a776a5d2a207e205b4c6574746572204865627265775d .nil)),888,[(659,b67),(887,b69),(657,Da)],(J .i64 0),944,[(659,b70),(901,b71),(915,zG),(917,b72),(919,b73),(935,b71),(943,b74)],[659,887]⟩]
set_option maxRecDepth 1000000 in
theorem acv:∀e∈afK,Am.xD Tryz.prog e:=oM uQ (by kernel_rfl)
