/- SearchEach's closed run: calls at blocks that are there. -/
import Derived.Test.YtocaiijbhepnnaaGreatDoorTL
import Derived.Test.YtocaiijbhepnnaaGreatDoorM1d
import Derived.Test.YtocaiijbhepnnaaGreatDoorM0b
namespace Go.Proofs.YtocaiijbhepnnaaGreatDoor.searchEach
open Go.Proofs.YtocaiijbhepnnaaGreatDoor.Am
noncomputable section
def akI:Am.TB:= .cells 184 (Q 657 0 20 1 (Q 1841 0 21 9 (T (F .nil))))
def akJ:Am.TB:= .cells 201 (I .i64 1 (Q 1747 0 3 1 (Z .nil)))
def akK:Am.TB:= .cells 201 (I .i64 1 (Q 1771 0 3 1 (Z .nil)))
def akL:Am.TB:= .cells 201 (I .i64 1 (Q 1792 0 3 1 (Z .nil)))
def akM:Am.TB:= .cells 201 (I .i64 1 (Q 1757 0 1 1 (Z (I .i64 4 (Z (Q 1773 0 1 3 (I .i64 1 (Q 1778 0 1 1 (Z (I .i64 4 (Z (Q 1794 0 1 3 .nil))))))))))))
def akN:Am.TB:= .cells 201 (I .i64 2 (Z (Q 1796 0 4 3 .nil)))
def akO:Am.TB:= .cells 201 (I .i64 1 (Q 1819 0 3 1 (Z .nil)))
def akP:Am.TB:= .cells 201 (I .i64 4 (Z (Q 1749 0 1 3 (I .i64 4 (Z (Q 1800 0 1 3 (I .i64 1 (Q 1805 0 1 1 (Z (I .i64 4 (Z (Q 1821 0 1 3 .nil))))))))))))
def c31 (t:Am.AV):Am.AV:=c30 (F (T (F (I .i64 2 (Z (Q 1823 0 4 3 (I .i64 1 (Q 1833 0 1 1 (Z t)))))))))
def akQ:Am.TB:= .cells 203 (c31 .nil)
def akR:Am.TB:= .cells 184 (Q 657 0 20 1 (Q 1991 0 22 9 (T (F .nil))))
def akS:Am.TB:= .cells 3 (I .i64 0 (I .i64 1 (I .i64 2 (I .i64 3 (I .i64 8 (I .i64 9 (I .i64 10 (I .i64 11 (I .i64 12 (I .i64 13 (I .i64 14 (I .i64 15 (I .i64 16 (I .i64 17 (I .i64 18 (I .i64 19 .nil))))))))))))))))
def akT:Am.TB:= .cells 201 (I .i64 1 (Q 1897 0 3 1 (Z .nil)))
def akU:Am.TB:= .cells 201 (I .i64 1 (Q 1921 0 3 1 (Z .nil)))
def akV:Am.TB:= .cells 201 (I .i64 1 (Q 1942 0 3 1 (Z .nil)))
def akW:Am.TB:= .cells 201 (I .i64 1 (Q 1907 0 1 1 (Z (I .i64 4 (Z (Q 1923 0 1 3 (I .i64 1 (Q 1928 0 1 1 (Z (I .i64 4 (Z (Q 1944 0 1 3 .nil))))))))))))
def akX:Am.TB:= .cells 201 (I .i64 2 (Z (Q 1946 0 4 3 .nil)))
def akY:Am.TB:= .cells 201 (I .i64 1 (Q 1969 0 3 1 (Z .nil)))
def akZ:Am.TB:= .cells 201 (I .i64 1 (Q 1883 0 16 1 (Z (I .i64 4 (Z (Q 1899 0 1 3 (I .i64 4 (Z (Q 1950 0 1 3 (I .i64 1 (Q 1955 0 1 1 (Z (I .i64 4 (Z (Q 1971 0 1 3 .nil)))))))))))))))
def c32 (t:Am.AV):Am.AV:=c31 (F (F (F (I .i64 2 (Z (Q 1973 0 5 3 (I .i64 1 (Q 1983 0 1 1 (Z t)))))))))
def ac7:Am.TB:= .cells 203 (c32 .nil)
def ak0:Am.TB:= .cells 184 (Q 657 0 20 1 (Q 1991 0 22 9 (T (T .nil))))
def ak1:List Am.iR:=[⟨124,(.cons (.ptr 659 0) (S 118 54674819322225883993972307151268927442774398717776728978401183155136196554313661505825419967133806460609946599434045846819436520008639132799379670617157034975034500622466272989381493820645314479849234235774008369711876538246158738639625140639642227277243472026275343610713112740196206 .nil)),1732,[(659,akC),(1731,akG),(657,DU)],(J .i64 0),1842,[(659,akI),(1747,l8),(1749,akJ),(1757,O1),(1771,l8),(1773,akK),(1778,O1),(1792,l8),(1794,akL),(1796,akM),(1800,akN),(1805,O1),(1819,l8),(1821,akO),(1823,akP),(1833,O1),(1841,akQ)],[659,1731]⟩,⟨124,(.cons (.ptr 659 0) (S 144 21832892287763648362052995313347403542698077593773936146005304535624726067109428621322176936767709239365190433259430988238004674857273402260195529220480962463840112986343642697947248425981432154859636064213964619302646101469500574241234750757346537452949173268521130702199811363859062586810716723524924686080303147812313971125292419206823098806126 .nil)),1842,[(659,akI),(1841,akQ),(657,DU)],(J .i64 0),1992,[(659,akR),(1883,akS),(1897,l8),(1899,akT),(1907,O1),(1921,l8),(1923,akU),(1928,O1),(1942,l8),(1944,akV),(1946,akW),(1950,akX),(1955,O1),(1969,l8),(1971,akY),(1973,akZ),(1983,O1),(1991,ac7)],[659,1841]⟩,⟨124,(.cons (.ptr 659 0) (S 6 125780054253615 .nil)),1992,[(659,akR),(1991,ac7),(657,DU)],(J .i64 0),1992,[(659,ak0)],[659]⟩,⟨124,(.cons (.ptr 659 0) (S 0 0 .nil)),1992,[(659,ak0),(1991,ac7),(657,DU)],(J .i64 0),1992,[],[]⟩]
set_option maxRecDepth 1000000 in
theorem agy:∀e∈ak1,Am.vE Tryz.prog e:=oM qW (by kernel_rfl)
end
end Go.Proofs.YtocaiijbhepnnaaGreatDoor.searchEach
