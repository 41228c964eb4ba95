/- FoldTitles's closed run: calls at blocks that are there. -/
import Derived.Test.YtocaiijbhepnnaaGreatDoorM1d
namespace Go.Proofs.YtocaiijbhepnnaaGreatDoor.foldTitles
open Go.Proofs.YtocaiijbhepnnaaGreatDoor.Am
noncomputable section
def af7:Am.TB:= .cells 184 (Q 657 0 20 1 (Q 1841 0 21 9 (T (F .nil))))
def ai2:Am.TB:= .cells 201 (I .i64 1 (Q 1747 0 3 1 (Z .nil)))
def ai3:Am.TB:= .cells 201 (I .i64 1 (Q 1771 0 3 1 (Z .nil)))
def ai4:Am.TB:= .cells 201 (I .i64 1 (Q 1792 0 3 1 (Z .nil)))
def ai5:Am.TB:= .cells 201 (I .i64 1 (Q 1757 0 1 1 (Z (I .i64 4 (Z (Q 1773 0 1 3 (I .i64 1 (Q 1778 0 1 1 (Z (I .i64 4 (Z (Q 1794 0 1 3 .nil))))))))))))
def ai6:Am.TB:= .cells 201 (I .i64 2 (Z (Q 1796 0 4 3 .nil)))
def ai7:Am.TB:= .cells 201 (I .i64 1 (Q 1819 0 3 1 (Z .nil)))
def ai8:Am.TB:= .cells 201 (I .i64 4 (Z (Q 1749 0 1 3 (I .i64 4 (Z (Q 1800 0 1 3 (I .i64 1 (Q 1805 0 1 1 (Z (I .i64 4 (Z (Q 1821 0 1 3 .nil))))))))))))
def c31 (t:Am.AV):Am.AV:=c30 (F (T (F (I .i64 2 (Z (Q 1823 0 4 3 (I .i64 1 (Q 1833 0 1 1 (Z t)))))))))
def af8:Am.TB:= .cells 203 (c31 .nil)
def af9:Am.TB:= .cells 184 (Q 657 0 20 1 (Q 1991 0 22 9 (T (F .nil))))
def ai9:Am.TB:= .cells 3 (I .i64 0 (I .i64 1 (I .i64 2 (I .i64 3 (I .i64 8 (I .i64 9 (I .i64 10 (I .i64 11 (I .i64 12 (I .i64 13 (I .i64 14 (I .i64 15 (I .i64 16 (I .i64 17 (I .i64 18 (I .i64 19 .nil))))))))))))))))
def aja:Am.TB:= .cells 201 (I .i64 1 (Q 1897 0 3 1 (Z .nil)))
def ajb:Am.TB:= .cells 201 (I .i64 1 (Q 1921 0 3 1 (Z .nil)))
def ajc:Am.TB:= .cells 201 (I .i64 1 (Q 1942 0 3 1 (Z .nil)))
def ajd:Am.TB:= .cells 201 (I .i64 1 (Q 1907 0 1 1 (Z (I .i64 4 (Z (Q 1923 0 1 3 (I .i64 1 (Q 1928 0 1 1 (Z (I .i64 4 (Z (Q 1944 0 1 3 .nil))))))))))))
def aje:Am.TB:= .cells 201 (I .i64 2 (Z (Q 1946 0 4 3 .nil)))
def ajf:Am.TB:= .cells 201 (I .i64 1 (Q 1969 0 3 1 (Z .nil)))
def ajg:Am.TB:= .cells 201 (I .i64 1 (Q 1883 0 16 1 (Z (I .i64 4 (Z (Q 1899 0 1 3 (I .i64 4 (Z (Q 1950 0 1 3 (I .i64 1 (Q 1955 0 1 1 (Z (I .i64 4 (Z (Q 1971 0 1 3 .nil)))))))))))))))
def c32 (t:Am.AV):Am.AV:=c31 (F (F (F (I .i64 2 (Z (Q 1973 0 5 3 (I .i64 1 (Q 1983 0 1 1 (Z t)))))))))
def acA:Am.TB:= .cells 203 (c32 .nil)
def aga:Am.TB:= .cells 184 (Q 657 0 20 1 (Q 1991 0 22 9 (T (T .nil))))
def agb:List Am.jk:=[⟨124,(.cons (.ptr 659 0) (S 118 0x5e205b457874656e6420466f726d6174205a776a5d2a2028526567696f6e205b457874656e6420466f726d6174205a776a5d2a20526567696f6e205b457874656e6420466f726d6174205a776a5d2a292a20526567696f6e205b457874656e6420466f726d6174205a776a5d2a207e20526567696f6e .nil)),1732,[(659,af4),(1731,af5),(657,Da)],(J .i64 0),1842,[(659,af7),(1747,zG),(1749,ai2),(1757,Zt),(1771,zG),(1773,ai3),(1778,Zt),(1792,zG),(1794,ai4),(1796,ai5),(1800,ai6),(1805,Zt),(1819,zG),(1821,ai7),(1823,ai8),(1833,Zt),(1841,af8)],[659,1731]⟩,⟨124,(.cons (.ptr 659 0) (S 144 0x5b5e526567696f6e20457874656e6420466f726d6174205a776a5d205b457874656e6420466f726d6174205a776a5d2a2028526567696f6e205b457874656e6420466f726d6174205a776a5d2a20526567696f6e205b457874656e6420466f726d6174205a776a5d2a292a20526567696f6e205b457874656e6420466f726d6174205a776a5d2a207e20526567696f6e .nil)),1842,[(659,af7),(1841,af8),(657,Da)],(J .i64 0),1992,[(659,af9),(1883,ai9),(1897,zG),(1899,aja),(1907,Zt),(1921,zG),(1923,ajb),(1928,Zt),(1942,zG),(1944,ajc),(1946,ajd),(1950,aje),(1955,Zt),(1969,zG),(1971,ajf),(1973,ajg),(1983,Zt),(1991,acA)],[659,1841]⟩,⟨124,(.cons (.ptr 659 0) (S 6 0x72657374202f .nil)),1992,[(659,af9),(1991,acA),(657,Da)],(J .i64 0),1992,[(659,aga)],[659]⟩,⟨124,(.cons (.ptr 659 0) (S 0 0 .nil)),1992,[(659,aga),(1991,acA),(657,Da)],(J .i64 0),1992,[],[]⟩]
set_option maxRecDepth 1000000 in
theorem acB:∀e∈agb,Am.xD Tryz.prog e:=oM uQ (by kernel_rfl)
