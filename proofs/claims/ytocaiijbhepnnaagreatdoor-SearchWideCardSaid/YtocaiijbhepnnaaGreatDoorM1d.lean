/- SearchWide's closed run: calls at blocks that are there. -/
import Derived.Test.YtocaiijbhepnnaaGreatDoorM1c
namespace Go.Proofs.YtocaiijbhepnnaaGreatDoor.searchWide
open Go.Proofs.YtocaiijbhepnnaaGreatDoor.Am
noncomputable section
def ag2:Am.TB:= .cells 184 (Q 657 0 20 1 (Q 1577 0 17 9 (T (F .nil))))
def ag3:Am.TB:= .cells 201 (I .i64 1 (Q 1526 0 3 1 (Z .nil)))
def ag4:Am.TB:= .cells 201 (I .i64 1 (Q 1512 0 1 1 (Z (I .i64 4 (Z (Q 1528 0 1 3 .nil))))))
def ag5:Am.TB:= .cells 201 (I .i64 1 (Q 1562 0 3 1 (Z .nil)))
def ag6:Am.TB:= .cells 201 (I .i64 1 (Q 1548 0 3 1 (Z (I .i64 4 (Z (Q 1564 0 1 3 (I .i64 1 (Q 1569 0 1 1 (Z .nil)))))))))
def c27 (t:Am.AV):Am.AV:=c26 (F (F (F (I .i64 2 (Z (Q 1530 0 2 3 (I .i64 2 (Z (Q 1572 0 3 3 t)))))))))
def ag7:Am.TB:= .cells 203 (c27 .nil)
def ag8:Am.TB:= .cells 184 (Q 657 0 20 1 (Q 1621 0 18 9 (T (F .nil))))
def ag9:Am.TB:= .cells 201 (I .i64 1 (Q 1599 0 3 1 (Z .nil)))
def aha:Am.TB:= .cells 201 (I .i64 1 (Q 1585 0 1 1 (Z (I .i64 4 (Z (Q 1601 0 1 3 .nil))))))
def c28 (t:Am.AV):Am.AV:=c27 (F (F (F (I .i64 2 (Z (Q 1603 0 2 3 (I .i64 1 (Q 1613 0 1 1 (Z t)))))))))
def ahb:Am.TB:= .cells 203 (c28 .nil)
def ahc:Am.TB:= .cells 184 (Q 657 0 20 1 (Q 1677 0 19 9 (T (F .nil))))
def ahd:Am.TB:= .cells 3 (I .i64 8 (I .i64 9 (I .i64 10 (I .i64 16 (I .i64 17 .nil)))))
def ahe:Am.TB:= .cells 201 (I .i64 1 (Q 1655 0 3 1 (Z .nil)))
def ahf:Am.TB:= .cells 201 (I .i64 1 (Q 1641 0 5 1 (Z (I .i64 4 (Z (Q 1657 0 1 3 .nil))))))
def aag:Am.TB:= .cells 3 (I .i64 17 .nil)
def c29 (t:Am.AV):Am.AV:=c28 (F (F (F (I .i64 2 (Z (Q 1659 0 2 3 (I .i64 1 (Q 1669 0 1 1 (Z t)))))))))
def ahg:Am.TB:= .cells 203 (c29 .nil)
def ahh:Am.TB:= .cells 184 (Q 657 0 20 1 (Q 1731 0 20 9 (T (F .nil))))
def ahi:Am.TB:= .cells 201 (I .i64 1 (Q 1699 0 3 1 (Z .nil)))
def ahj:Am.TB:= .cells 201 (I .i64 1 (Q 1685 0 1 1 (Z (I .i64 4 (Z (Q 1701 0 1 3 .nil))))))
def ahk:Am.TB:= .cells 3 (I .i64 8 (I .i64 9 (I .i64 10 (I .i64 16 .nil))))
def c30 (t:Am.AV):Am.AV:=c29 (F (F (F (I .i64 2 (Z (Q 1703 0 2 3 (I .i64 1 (Q 1723 0 4 1 (Z t)))))))))
def ahl:Am.TB:= .cells 203 (c30 .nil)
def ahm:List Am.gW:=[⟨124,(.cons (.ptr 659 0) (S 80 0x4469676974205b457874656e6420466f726d6174205a776a5d2a207e205b4d69644e756d204d69644e756d4c65742051756f74655d205b457874656e6420466f726d6174205a776a5d2a204469676974 .nil)),1505,[(659,agW),(1504,ag0),(657,Cg)],(J .i64 0),1578,[(659,ag2),(1512,wJ),(1526,kY),(1528,ag3),(1530,ag4),(1548,aaf),(1562,kY),(1564,ag5),(1569,wJ),(1572,ag6),(1577,ag7)],[659,1504]⟩,⟨124,(.cons (.ptr 659 0) (S 40 0x4b6174616b616e61205b457874656e6420466f726d6174205a776a5d2a207e204b6174616b616e61 .nil)),1578,[(659,ag2),(1577,ag7),(657,Cg)],(J .i64 0),1622,[(659,ag8),(1585,b14),(1599,kY),(1601,ag9),(1603,aha),(1613,b14),(1621,ahb)],[659,1577]⟩,⟨124,(.cons (.ptr 659 0) (S 61 0x5b4c657474657220486562726577204469676974204b6174616b616e61204c6f775d205b457874656e6420466f726d6174205a776a5d2a207e204c6f77 .nil)),1622,[(659,ag8),(1621,ahb),(657,Cg)],(J .i64 0),1678,[(659,ahc),(1641,ahd),(1655,kY),(1657,ahe),(1659,ahf),(1669,aag),(1677,ahg)],[659,1621]⟩,⟨124,(.cons (.ptr 659 0) (S 57 0x4c6f77205b457874656e6420466f726d6174205a776a5d2a207e205b4c657474657220486562726577204469676974204b6174616b616e615d .nil)),1678,[(659,ahc),(1677,ahg),(657,Cg)],(J .i64 0),1732,[(659,ahh),(1685,aag),(1699,kY),(1701,ahi),(1703,ahj),(1723,ahk),(1731,ahl)],[659,1677]⟩]
set_option maxRecDepth 1000000 in
theorem adB:∀e∈ahm,Am.xH Tryz.prog e:=oM qc (by kernel_rfl)
