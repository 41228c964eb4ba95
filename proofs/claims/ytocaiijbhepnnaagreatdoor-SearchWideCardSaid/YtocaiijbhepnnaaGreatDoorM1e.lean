/- SearchWide's closed run: calls at blocks that are there. -/
import Derived.Test.YtocaiijbhepnnaaGreatDoorM1d
namespace Go.Proofs.YtocaiijbhepnnaaGreatDoor.searchWide
open Go.Proofs.YtocaiijbhepnnaaGreatDoor.Am
noncomputable section
def ahn:Am.TB:= .cells 184 (Q 657 0 20 1 (Q 1841 0 21 9 (T (F .nil))))
def aho:Am.TB:= .cells 201 (I .i64 1 (Q 1747 0 3 1 (Z .nil)))
def ahp:Am.TB:= .cells 201 (I .i64 1 (Q 1771 0 3 1 (Z .nil)))
def ahq:Am.TB:= .cells 201 (I .i64 1 (Q 1792 0 3 1 (Z .nil)))
def ahr:Am.TB:= .cells 201 (I .i64 1 (Q 1757 0 1 1 (Z (I .i64 4 (Z (Q 1773 0 1 3 (I .i64 1 (Q 1778 0 1 1 (Z (I .i64 4 (Z (Q 1794 0 1 3 .nil))))))))))))
def ahs:Am.TB:= .cells 201 (I .i64 2 (Z (Q 1796 0 4 3 .nil)))
def aht:Am.TB:= .cells 201 (I .i64 1 (Q 1819 0 3 1 (Z .nil)))
def ahu:Am.TB:= .cells 201 (I .i64 4 (Z (Q 1749 0 1 3 (I .i64 4 (Z (Q 1800 0 1 3 (I .i64 1 (Q 1805 0 1 1 (Z (I .i64 4 (Z (Q 1821 0 1 3 .nil))))))))))))
def c31 (t:Am.AV):Am.AV:=c30 (F (T (F (I .i64 2 (Z (Q 1823 0 4 3 (I .i64 1 (Q 1833 0 1 1 (Z t)))))))))
def ahv:Am.TB:= .cells 203 (c31 .nil)
def ahw:Am.TB:= .cells 184 (Q 657 0 20 1 (Q 1991 0 22 9 (T (F .nil))))
def ahx:Am.TB:= .cells 3 (I .i64 0 (I .i64 1 (I .i64 2 (I .i64 3 (I .i64 8 (I .i64 9 (I .i64 10 (I .i64 11 (I .i64 12 (I .i64 13 (I .i64 14 (I .i64 15 (I .i64 16 (I .i64 17 (I .i64 18 (I .i64 19 .nil))))))))))))))))
def ahy:Am.TB:= .cells 201 (I .i64 1 (Q 1897 0 3 1 (Z .nil)))
def ahz:Am.TB:= .cells 201 (I .i64 1 (Q 1921 0 3 1 (Z .nil)))
def ahA:Am.TB:= .cells 201 (I .i64 1 (Q 1942 0 3 1 (Z .nil)))
def ahB:Am.TB:= .cells 201 (I .i64 1 (Q 1907 0 1 1 (Z (I .i64 4 (Z (Q 1923 0 1 3 (I .i64 1 (Q 1928 0 1 1 (Z (I .i64 4 (Z (Q 1944 0 1 3 .nil))))))))))))
def ahC:Am.TB:= .cells 201 (I .i64 2 (Z (Q 1946 0 4 3 .nil)))
def ahD:Am.TB:= .cells 201 (I .i64 1 (Q 1969 0 3 1 (Z .nil)))
def ahE:Am.TB:= .cells 201 (I .i64 1 (Q 1883 0 16 1 (Z (I .i64 4 (Z (Q 1899 0 1 3 (I .i64 4 (Z (Q 1950 0 1 3 (I .i64 1 (Q 1955 0 1 1 (Z (I .i64 4 (Z (Q 1971 0 1 3 .nil)))))))))))))))
def c32 (t:Am.AV):Am.AV:=c31 (F (F (F (I .i64 2 (Z (Q 1973 0 5 3 (I .i64 1 (Q 1983 0 1 1 (Z t)))))))))
def aah:Am.TB:= .cells 203 (c32 .nil)
def ahF:Am.TB:= .cells 184 (Q 657 0 20 1 (Q 1991 0 22 9 (T (T .nil))))
def ahG:List Am.gW:=[⟨124,(.cons (.ptr 659 0) (S 118 0x5e205b457874656e6420466f726d6174205a776a5d2a2028526567696f6e205b457874656e6420466f726d6174205a776a5d2a20526567696f6e205b457874656e6420466f726d6174205a776a5d2a292a20526567696f6e205b457874656e6420466f726d6174205a776a5d2a207e20526567696f6e .nil)),1732,[(659,ahh),(1731,ahl),(657,Cg)],(J .i64 0),1842,[(659,ahn),(1747,kY),(1749,aho),(1757,M4),(1771,kY),(1773,ahp),(1778,M4),(1792,kY),(1794,ahq),(1796,ahr),(1800,ahs),(1805,M4),(1819,kY),(1821,aht),(1823,ahu),(1833,M4),(1841,ahv)],[659,1731]⟩,⟨124,(.cons (.ptr 659 0) (S 144 0x5b5e526567696f6e20457874656e6420466f726d6174205a776a5d205b457874656e6420466f726d6174205a776a5d2a2028526567696f6e205b457874656e6420466f726d6174205a776a5d2a20526567696f6e205b457874656e6420466f726d6174205a776a5d2a292a20526567696f6e205b457874656e6420466f726d6174205a776a5d2a207e20526567696f6e .nil)),1842,[(659,ahn),(1841,ahv),(657,Cg)],(J .i64 0),1992,[(659,ahw),(1883,ahx),(1897,kY),(1899,ahy),(1907,M4),(1921,kY),(1923,ahz),(1928,M4),(1942,kY),(1944,ahA),(1946,ahB),(1950,ahC),(1955,M4),(1969,kY),(1971,ahD),(1973,ahE),(1983,M4),(1991,aah)],[659,1841]⟩,⟨124,(.cons (.ptr 659 0) (S 6 0x72657374202f .nil)),1992,[(659,ahw),(1991,aah),(657,Cg)],(J .i64 0),1992,[(659,ahF)],[659]⟩,⟨124,(.cons (.ptr 659 0) (S 0 0 .nil)),1992,[(659,ahF),(1991,aah),(657,Cg)],(J .i64 0),1992,[],[]⟩]
set_option maxRecDepth 1000000 in
theorem adC:∀e∈ahG,Am.xH Tryz.prog e:=oM qc (by kernel_rfl)
