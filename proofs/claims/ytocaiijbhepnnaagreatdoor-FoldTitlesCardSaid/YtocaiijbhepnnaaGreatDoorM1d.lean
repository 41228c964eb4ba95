/- FoldTitles's closed run: calls at blocks that are there. -/
import Derived.Test.YtocaiijbhepnnaaGreatDoorM1c
namespace Go.Proofs.YtocaiijbhepnnaaGreatDoor.foldTitles
open Go.Proofs.YtocaiijbhepnnaaGreatDoor.Am
noncomputable section
def afW:Am.TB:= .cells 184 (Q 657 0 20 1 (Q 1577 0 17 9 (T (F .nil))))
def aiQ:Am.TB:= .cells 201 (I .i64 1 (Q 1526 0 3 1 (Z .nil)))
def aiR:Am.TB:= .cells 201 (I .i64 1 (Q 1512 0 1 1 (Z (I .i64 4 (Z (Q 1528 0 1 3 .nil))))))
def aiS:Am.TB:= .cells 201 (I .i64 1 (Q 1562 0 3 1 (Z .nil)))
def aiT:Am.TB:= .cells 201 (I .i64 1 (Q 1548 0 3 1 (Z (I .i64 4 (Z (Q 1564 0 1 3 (I .i64 1 (Q 1569 0 1 1 (Z .nil)))))))))
def c27 (t:Am.AV):Am.AV:=c26 (F (F (F (I .i64 2 (Z (Q 1530 0 2 3 (I .i64 2 (Z (Q 1572 0 3 3 t)))))))))
def afX:Am.TB:= .cells 203 (c27 .nil)
def afY:Am.TB:= .cells 184 (Q 657 0 20 1 (Q 1621 0 18 9 (T (F .nil))))
def aiU:Am.TB:= .cells 201 (I .i64 1 (Q 1599 0 3 1 (Z .nil)))
def aiV:Am.TB:= .cells 201 (I .i64 1 (Q 1585 0 1 1 (Z (I .i64 4 (Z (Q 1601 0 1 3 .nil))))))
def c28 (t:Am.AV):Am.AV:=c27 (F (F (F (I .i64 2 (Z (Q 1603 0 2 3 (I .i64 1 (Q 1613 0 1 1 (Z t)))))))))
def afZ:Am.TB:= .cells 203 (c28 .nil)
def af0:Am.TB:= .cells 184 (Q 657 0 20 1 (Q 1677 0 19 9 (T (F .nil))))
def aiW:Am.TB:= .cells 3 (I .i64 8 (I .i64 9 (I .i64 10 (I .i64 16 (I .i64 17 .nil)))))
def aiX:Am.TB:= .cells 201 (I .i64 1 (Q 1655 0 3 1 (Z .nil)))
def aiY:Am.TB:= .cells 201 (I .i64 1 (Q 1641 0 5 1 (Z (I .i64 4 (Z (Q 1657 0 1 3 .nil))))))
def af2:Am.TB:= .cells 3 (I .i64 17 .nil)
def c29 (t:Am.AV):Am.AV:=c28 (F (F (F (I .i64 2 (Z (Q 1659 0 2 3 (I .i64 1 (Q 1669 0 1 1 (Z t)))))))))
def af3:Am.TB:= .cells 203 (c29 .nil)
def af4:Am.TB:= .cells 184 (Q 657 0 20 1 (Q 1731 0 20 9 (T (F .nil))))
def aiZ:Am.TB:= .cells 201 (I .i64 1 (Q 1699 0 3 1 (Z .nil)))
def ai0:Am.TB:= .cells 201 (I .i64 1 (Q 1685 0 1 1 (Z (I .i64 4 (Z (Q 1701 0 1 3 .nil))))))
def ai1:Am.TB:= .cells 3 (I .i64 8 (I .i64 9 (I .i64 10 (I .i64 16 .nil))))
def c30 (t:Am.AV):Am.AV:=c29 (F (F (F (I .i64 2 (Z (Q 1703 0 2 3 (I .i64 1 (Q 1723 0 4 1 (Z t)))))))))
def af5:Am.TB:= .cells 203 (c30 .nil)
def af6:List Am.jk:=[⟨124,(.cons (.ptr 659 0) (S 80 0x4469676974205b457874656e6420466f726d6174205a776a5d2a207e205b4d69644e756d204d69644e756d4c65742051756f74655d205b457874656e6420466f726d6174205a776a5d2a204469676974 .nil)),1505,[(659,afS),(1504,afU),(657,Da)],(J .i64 0),1578,[(659,afW),(1512,LZ),(1526,zG),(1528,aiQ),(1530,aiR),(1548,afT),(1562,zG),(1564,aiS),(1569,LZ),(1572,aiT),(1577,afX)],[659,1504]⟩,⟨124,(.cons (.ptr 659 0) (S 40 0x4b6174616b616e61205b457874656e6420466f726d6174205a776a5d2a207e204b6174616b616e61 .nil)),1578,[(659,afW),(1577,afX),(657,Da)],(J .i64 0),1622,[(659,afY),(1585,b14),(1599,zG),(1601,aiU),(1603,aiV),(1613,b14),(1621,afZ)],[659,1577]⟩,⟨124,(.cons (.ptr 659 0) (S 61 0x5b4c657474657220486562726577204469676974204b6174616b616e61204c6f775d205b457874656e6420466f726d6174205a776a5d2a207e204c6f77 .nil)),1622,[(659,afY),(1621,afZ),(657,Da)],(J .i64 0),1678,[(659,af0),(1641,aiW),(1655,zG),(1657,aiX),(1659,aiY),(1669,af2),(1677,af3)],[659,1621]⟩,⟨124,(.cons (.ptr 659 0) (S 57 0x4c6f77205b457874656e6420466f726d6174205a776a5d2a207e205b4c657474657220486562726577204469676974204b6174616b616e615d .nil)),1678,[(659,af0),(1677,af3),(657,Da)],(J .i64 0),1732,[(659,af4),(1685,af2),(1699,zG),(1701,aiZ),(1703,ai0),(1723,ai1),(1731,af5)],[659,1677]⟩]
set_option maxRecDepth 1000000 in
theorem acz:∀e∈af6,Am.xD Tryz.prog e:=oM uQ (by kernel_rfl)
