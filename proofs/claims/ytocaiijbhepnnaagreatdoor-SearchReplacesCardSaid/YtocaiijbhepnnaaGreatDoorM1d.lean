/- SearchReplaces's closed run: calls at blocks that are there. -/
import Derived.Test.YtocaiijbhepnnaaGreatDoorM1c
namespace Go.Proofs.YtocaiijbhepnnaaGreatDoor.searchReplaces
open Go.Proofs.YtocaiijbhepnnaaGreatDoor.Am
noncomputable section
def ak1:Am.TB:= .cells 184 (Q 657 0 20 1 (Q 1577 0 17 9 (T (F .nil))))
def ak2:Am.TB:= .cells 201 (I .i64 1 (Q 1526 0 3 1 (Z .nil)))
def ak3:Am.TB:= .cells 201 (I .i64 1 (Q 1512 0 1 1 (Z (I .i64 4 (Z (Q 1528 0 1 3 .nil))))))
def ak4:Am.TB:= .cells 201 (I .i64 1 (Q 1562 0 3 1 (Z .nil)))
def ak5:Am.TB:= .cells 201 (I .i64 1 (Q 1548 0 3 1 (Z (I .i64 4 (Z (Q 1564 0 1 3 (I .i64 1 (Q 1569 0 1 1 (Z .nil)))))))))
def c27 (t:Am.AV):Am.AV:=c26 (F (F (F (I .i64 2 (Z (Q 1530 0 2 3 (I .i64 2 (Z (Q 1572 0 3 3 t)))))))))
def ak6:Am.TB:= .cells 203 (c27 .nil)
def ak7:Am.TB:= .cells 184 (Q 657 0 20 1 (Q 1621 0 18 9 (T (F .nil))))
def ak8:Am.TB:= .cells 201 (I .i64 1 (Q 1599 0 3 1 (Z .nil)))
def ak9:Am.TB:= .cells 201 (I .i64 1 (Q 1585 0 1 1 (Z (I .i64 4 (Z (Q 1601 0 1 3 .nil))))))
def c28 (t:Am.AV):Am.AV:=c27 (F (F (F (I .i64 2 (Z (Q 1603 0 2 3 (I .i64 1 (Q 1613 0 1 1 (Z t)))))))))
def ala:Am.TB:= .cells 203 (c28 .nil)
def alb:Am.TB:= .cells 184 (Q 657 0 20 1 (Q 1677 0 19 9 (T (F .nil))))
def alc:Am.TB:= .cells 3 (I .i64 8 (I .i64 9 (I .i64 10 (I .i64 16 (I .i64 17 .nil)))))
def ald:Am.TB:= .cells 201 (I .i64 1 (Q 1655 0 3 1 (Z .nil)))
def ale:Am.TB:= .cells 201 (I .i64 1 (Q 1641 0 5 1 (Z (I .i64 4 (Z (Q 1657 0 1 3 .nil))))))
def adN:Am.TB:= .cells 3 (I .i64 17 .nil)
def c29 (t:Am.AV):Am.AV:=c28 (F (F (F (I .i64 2 (Z (Q 1659 0 2 3 (I .i64 1 (Q 1669 0 1 1 (Z t)))))))))
def alf:Am.TB:= .cells 203 (c29 .nil)
def alg:Am.TB:= .cells 184 (Q 657 0 20 1 (Q 1731 0 20 9 (T (F .nil))))
def alh:Am.TB:= .cells 201 (I .i64 1 (Q 1699 0 3 1 (Z .nil)))
def ali:Am.TB:= .cells 201 (I .i64 1 (Q 1685 0 1 1 (Z (I .i64 4 (Z (Q 1701 0 1 3 .nil))))))
def alj:Am.TB:= .cells 3 (I .i64 8 (I .i64 9 (I .i64 10 (I .i64 16 .nil))))
def c30 (t:Am.AV):Am.AV:=c29 (F (F (F (I .i64 2 (Z (Q 1703 0 2 3 (I .i64 1 (Q 1723 0 4 1 (Z t)))))))))
def alk:Am.TB:= .cells 203 (c30 .nil)
def alm:List Am.jc:=[⟨124,(.cons (.ptr 659 0) (S 80 0x4469676974205b457874656e6420466f726d6174205a776a5d2a207e205b4d69644e756d204d69644e756d4c65742051756f74655d205b457874656e6420466f726d6174205a776a5d2a204469676974 .nil)),1505,[(659,akV),(1504,akZ),(657,Ej)],(J .i64 0),1578,[(659,ak1),(1512,yN),(1526,mV),(1528,ak2),(1530,ak3),(1548,adM),(1562,mV),(1564,ak4),(1569,yN),(1572,ak5),(1577,ak6)],[659,1504]⟩,⟨124,(.cons (.ptr 659 0) (S 40 0x4b6174616b616e61205b457874656e6420466f726d6174205a776a5d2a207e204b6174616b616e61 .nil)),1578,[(659,ak1),(1577,ak6),(657,Ej)],(J .i64 0),1622,[(659,ak7),(1585,b14),(1599,mV),(1601,ak8),(1603,ak9),(1613,b14),(1621,ala)],[659,1577]⟩,⟨124,(.cons (.ptr 659 0) (S 61 0x5b4c657474657220486562726577204469676974204b6174616b616e61204c6f775d205b457874656e6420466f726d6174205a776a5d2a207e204c6f77 .nil)),1622,[(659,ak7),(1621,ala),(657,Ej)],(J .i64 0),1678,[(659,alb),(1641,alc),(1655,mV),(1657,ald),(1659,ale),(1669,adN),(1677,alf)],[659,1621]⟩,⟨124,(.cons (.ptr 659 0) (S 57 0x4c6f77205b457874656e6420466f726d6174205a776a5d2a207e205b4c657474657220486562726577204469676974204b6174616b616e615d .nil)),1678,[(659,alb),(1677,alf),(657,Ej)],(J .i64 0),1732,[(659,alg),(1685,adN),(1699,mV),(1701,alh),(1703,ali),(1723,alj),(1731,alk)],[659,1677]⟩]
set_option maxRecDepth 1000000 in
theorem ahb:∀e∈alm,Am.vT Tryz.prog e:=oM rW (by kernel_rfl)
