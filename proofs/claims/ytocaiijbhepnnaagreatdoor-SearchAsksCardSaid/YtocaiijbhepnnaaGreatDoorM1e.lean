/- SearchAsks's closed run: calls at blocks that are there. -/
import Derived.Test.YtocaiijbhepnnaaGreatDoorTL
import Derived.Test.YtocaiijbhepnnaaGreatDoorM1d
import Derived.Test.YtocaiijbhepnnaaGreatDoorM0b
namespace Go.Proofs.YtocaiijbhepnnaaGreatDoor.searchAsks
open Go.Proofs.YtocaiijbhepnnaaGreatDoor.Am
noncomputable section
def ako:Am.TB:= .cells 184 (Q 657 0 20 1 (Q 1841 0 21 9 (T (F .nil))))
def akp:Am.TB:= .cells 201 (I .i64 1 (Q 1747 0 3 1 (Z .nil)))
def akq:Am.TB:= .cells 201 (I .i64 1 (Q 1771 0 3 1 (Z .nil)))
def akr:Am.TB:= .cells 201 (I .i64 1 (Q 1792 0 3 1 (Z .nil)))
def aks:Am.TB:= .cells 201 (I .i64 1 (Q 1757 0 1 1 (Z (I .i64 4 (Z (Q 1773 0 1 3 (I .i64 1 (Q 1778 0 1 1 (Z (I .i64 4 (Z (Q 1794 0 1 3 .nil))))))))))))
def akt:Am.TB:= .cells 201 (I .i64 2 (Z (Q 1796 0 4 3 .nil)))
def aku:Am.TB:= .cells 201 (I .i64 1 (Q 1819 0 3 1 (Z .nil)))
def akv:Am.TB:= .cells 201 (I .i64 4 (Z (Q 1749 0 1 3 (I .i64 4 (Z (Q 1800 0 1 3 (I .i64 1 (Q 1805 0 1 1 (Z (I .i64 4 (Z (Q 1821 0 1 3 .nil))))))))))))
def c31 (t:Am.AV):Am.AV:=c30 (F (T (F (I .i64 2 (Z (Q 1823 0 4 3 (I .i64 1 (Q 1833 0 1 1 (Z t)))))))))
def akw:Am.TB:= .cells 203 (c31 .nil)
def akx:Am.TB:= .cells 184 (Q 657 0 20 1 (Q 1991 0 22 9 (T (F .nil))))
def aky:Am.TB:= .cells 3 (I .i64 0 (I .i64 1 (I .i64 2 (I .i64 3 (I .i64 8 (I .i64 9 (I .i64 10 (I .i64 11 (I .i64 12 (I .i64 13 (I .i64 14 (I .i64 15 (I .i64 16 (I .i64 17 (I .i64 18 (I .i64 19 .nil))))))))))))))))
def akz:Am.TB:= .cells 201 (I .i64 1 (Q 1897 0 3 1 (Z .nil)))
def akA:Am.TB:= .cells 201 (I .i64 1 (Q 1921 0 3 1 (Z .nil)))
def akB:Am.TB:= .cells 201 (I .i64 1 (Q 1942 0 3 1 (Z .nil)))
def akC:Am.TB:= .cells 201 (I .i64 1 (Q 1907 0 1 1 (Z (I .i64 4 (Z (Q 1923 0 1 3 (I .i64 1 (Q 1928 0 1 1 (Z (I .i64 4 (Z (Q 1944 0 1 3 .nil))))))))))))
def akD:Am.TB:= .cells 201 (I .i64 2 (Z (Q 1946 0 4 3 .nil)))
def akE:Am.TB:= .cells 201 (I .i64 1 (Q 1969 0 3 1 (Z .nil)))
def akF:Am.TB:= .cells 201 (I .i64 1 (Q 1883 0 16 1 (Z (I .i64 4 (Z (Q 1899 0 1 3 (I .i64 4 (Z (Q 1950 0 1 3 (I .i64 1 (Q 1955 0 1 1 (Z (I .i64 4 (Z (Q 1971 0 1 3 .nil)))))))))))))))
def c32 (t:Am.AV):Am.AV:=c31 (F (F (F (I .i64 2 (Z (Q 1973 0 5 3 (I .i64 1 (Q 1983 0 1 1 (Z t)))))))))
def acJ:Am.TB:= .cells 203 (c32 .nil)
def akG:Am.TB:= .cells 184 (Q 657 0 20 1 (Q 1991 0 22 9 (T (T .nil))))
def akH:List Am.iR:=[⟨124,(.cons (.ptr 659 0) (S 118 54674819322225883993972307151268927442774398717776728978401183155136196554313661505825419967133806460609946599434045846819436520008639132799379670617157034975034500622466272989381493820645314479849234235774008369711876538246158738639625140639642227277243472026275343610713112740196206 .nil)),1732,[(659,aki),(1731,akm),(657,Dy)],(J .i64 0),1842,[(659,ako),(1747,l8),(1749,akp),(1757,OE),(1771,l8),(1773,akq),(1778,OE),(1792,l8),(1794,akr),(1796,aks),(1800,akt),(1805,OE),(1819,l8),(1821,aku),(1823,akv),(1833,OE),(1841,akw)],[659,1731]⟩,⟨124,(.cons (.ptr 659 0) (S 144 21832892287763648362052995313347403542698077593773936146005304535624726067109428621322176936767709239365190433259430988238004674857273402260195529220480962463840112986343642697947248425981432154859636064213964619302646101469500574241234750757346537452949173268521130702199811363859062586810716723524924686080303147812313971125292419206823098806126 .nil)),1842,[(659,ako),(1841,akw),(657,Dy)],(J .i64 0),1992,[(659,akx),(1883,aky),(1897,l8),(1899,akz),(1907,OE),(1921,l8),(1923,akA),(1928,OE),(1942,l8),(1944,akB),(1946,akC),(1950,akD),(1955,OE),(1969,l8),(1971,akE),(1973,akF),(1983,OE),(1991,acJ)],[659,1841]⟩,⟨124,(.cons (.ptr 659 0) (S 6 125780054253615 .nil)),1992,[(659,akx),(1991,acJ),(657,Dy)],(J .i64 0),1992,[(659,akG)],[659]⟩,⟨124,(.cons (.ptr 659 0) (S 0 0 .nil)),1992,[(659,akG),(1991,acJ),(657,Dy)],(J .i64 0),1992,[],[]⟩]
set_option maxRecDepth 1000000 in
theorem aga:∀e∈akH,Am.uZ Tryz.prog e:=oM qO (by kernel_rfl)
end
end Go.Proofs.YtocaiijbhepnnaaGreatDoor.searchAsks
