/- SearchEach's closed run: calls at blocks that are there. -/
import Derived.Test.YtocaiijbhepnnaaGreatDoorTL
import Derived.Test.YtocaiijbhepnnaaGreatDoorM1c
import Derived.Test.YtocaiijbhepnnaaGreatDoorM0b
namespace Go.Proofs.YtocaiijbhepnnaaGreatDoor.searchEach
open Go.Proofs.YtocaiijbhepnnaaGreatDoor.Am
noncomputable section
def akn:Am.TB:= .cells 184 (Q 657 0 20 1 (Q 1577 0 17 9 (T (F .nil))))
def ako:Am.TB:= .cells 201 (I .i64 1 (Q 1526 0 3 1 (Z .nil)))
def akp:Am.TB:= .cells 201 (I .i64 1 (Q 1512 0 1 1 (Z (I .i64 4 (Z (Q 1528 0 1 3 .nil))))))
def akq:Am.TB:= .cells 201 (I .i64 1 (Q 1562 0 3 1 (Z .nil)))
def akr:Am.TB:= .cells 201 (I .i64 1 (Q 1548 0 3 1 (Z (I .i64 4 (Z (Q 1564 0 1 3 (I .i64 1 (Q 1569 0 1 1 (Z .nil)))))))))
def c27 (t:Am.AV):Am.AV:=c26 (F (F (F (I .i64 2 (Z (Q 1530 0 2 3 (I .i64 2 (Z (Q 1572 0 3 3 t)))))))))
def aks:Am.TB:= .cells 203 (c27 .nil)
def akt:Am.TB:= .cells 184 (Q 657 0 20 1 (Q 1621 0 18 9 (T (F .nil))))
def aku:Am.TB:= .cells 201 (I .i64 1 (Q 1599 0 3 1 (Z .nil)))
def akv:Am.TB:= .cells 201 (I .i64 1 (Q 1585 0 1 1 (Z (I .i64 4 (Z (Q 1601 0 1 3 .nil))))))
def c28 (t:Am.AV):Am.AV:=c27 (F (F (F (I .i64 2 (Z (Q 1603 0 2 3 (I .i64 1 (Q 1613 0 1 1 (Z t)))))))))
def akw:Am.TB:= .cells 203 (c28 .nil)
def akx:Am.TB:= .cells 184 (Q 657 0 20 1 (Q 1677 0 19 9 (T (F .nil))))
def aky:Am.TB:= .cells 3 (I .i64 8 (I .i64 9 (I .i64 10 (I .i64 16 (I .i64 17 .nil)))))
def akz:Am.TB:= .cells 201 (I .i64 1 (Q 1655 0 3 1 (Z .nil)))
def akA:Am.TB:= .cells 201 (I .i64 1 (Q 1641 0 5 1 (Z (I .i64 4 (Z (Q 1657 0 1 3 .nil))))))
def ac6:Am.TB:= .cells 3 (I .i64 17 .nil)
def c29 (t:Am.AV):Am.AV:=c28 (F (F (F (I .i64 2 (Z (Q 1659 0 2 3 (I .i64 1 (Q 1669 0 1 1 (Z t)))))))))
def akB:Am.TB:= .cells 203 (c29 .nil)
def akC:Am.TB:= .cells 184 (Q 657 0 20 1 (Q 1731 0 20 9 (T (F .nil))))
def akD:Am.TB:= .cells 201 (I .i64 1 (Q 1699 0 3 1 (Z .nil)))
def akE:Am.TB:= .cells 201 (I .i64 1 (Q 1685 0 1 1 (Z (I .i64 4 (Z (Q 1701 0 1 3 .nil))))))
def akF:Am.TB:= .cells 3 (I .i64 8 (I .i64 9 (I .i64 10 (I .i64 16 .nil))))
def c30 (t:Am.AV):Am.AV:=c29 (F (F (F (I .i64 2 (Z (Q 1703 0 2 3 (I .i64 1 (Q 1723 0 4 1 (Z t)))))))))
def akG:Am.TB:= .cells 203 (c30 .nil)
def akH:List Am.iR:=[⟨124,(.cons (.ptr 659 0) (S 80 1219236229664351882131620932798889958297374707269263773092380121552471567015215593909027256408281938899315514642639892051213332603479106727252551379893648600629132507133446725328820851014330740 .nil)),1505,[(659,akh),(1504,akl),(657,DU)],(J .i64 0),1578,[(659,akn),(1512,yc),(1526,l8),(1528,ako),(1530,akp),(1548,ac5),(1562,l8),(1564,akq),(1569,yc),(1572,akr),(1577,aks)],[659,1504]⟩,⟨124,(.cons (.ptr 659 0) (S 40 628953748725012537685783646784494787677052326613067552230369515622637834410017852759792915934817 .nil)),1578,[(659,akn),(1577,aks),(657,DU)],(J .i64 0),1622,[(659,akt),(1585,b14),(1599,l8),(1601,aku),(1603,akv),(1613,b14),(1621,akw)],[659,1577]⟩,⟨124,(.cons (.ptr 659 0) (S 61 285010719892800607402672185526211041295846623891164473729072179917037016559707712785151998177488388647650292748099072630261598798408236144205262711 .nil)),1622,[(659,akt),(1621,akw),(657,DU)],(J .i64 0),1678,[(659,akx),(1641,aky),(1655,l8),(1657,akz),(1659,akA),(1669,ac6),(1677,akB)],[659,1621]⟩,⟨124,(.cons (.ptr 659 0) (S 57 55556216967133804305076417709209253555904904779253819183284472768223285092853635424138340075488463519511257355112949712822354171841634653 .nil)),1678,[(659,akx),(1677,akB),(657,DU)],(J .i64 0),1732,[(659,akC),(1685,ac6),(1699,l8),(1701,akD),(1703,akE),(1723,akF),(1731,akG)],[659,1677]⟩]
set_option maxRecDepth 1000000 in
theorem agx:∀e∈akH,Am.vE Tryz.prog e:=oM qW (by kernel_rfl)
end
end Go.Proofs.YtocaiijbhepnnaaGreatDoor.searchEach
