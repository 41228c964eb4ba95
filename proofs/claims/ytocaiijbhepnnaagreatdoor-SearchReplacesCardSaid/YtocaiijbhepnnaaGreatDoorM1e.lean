/- SearchReplaces's closed run: calls at blocks that are there. -/
import Derived.Test.YtocaiijbhepnnaaGreatDoorM1d
namespace Go.Proofs.YtocaiijbhepnnaaGreatDoor.searchReplaces
open Go.Proofs.YtocaiijbhepnnaaGreatDoor.Am
noncomputable section
def aln:Am.TB:= .cells 184 (Q 657 0 20 1 (Q 1841 0 21 9 (T (F .nil))))
def alo:Am.TB:= .cells 201 (I .i64 1 (Q 1747 0 3 1 (Z .nil)))
def alp:Am.TB:= .cells 201 (I .i64 1 (Q 1771 0 3 1 (Z .nil)))
def alq:Am.TB:= .cells 201 (I .i64 1 (Q 1792 0 3 1 (Z .nil)))
def alr:Am.TB:= .cells 201 (I .i64 1 (Q 1757 0 1 1 (Z (I .i64 4 (Z (Q 1773 0 1 3 (I .i64 1 (Q 1778 0 1 1 (Z (I .i64 4 (Z (Q 1794 0 1 3 .nil))))))))))))
def als:Am.TB:= .cells 201 (I .i64 2 (Z (Q 1796 0 4 3 .nil)))
def alu:Am.TB:= .cells 201 (I .i64 1 (Q 1819 0 3 1 (Z .nil)))
def alv:Am.TB:= .cells 201 (I .i64 4 (Z (Q 1749 0 1 3 (I .i64 4 (Z (Q 1800 0 1 3 (I .i64 1 (Q 1805 0 1 1 (Z (I .i64 4 (Z (Q 1821 0 1 3 .nil))))))))))))
def c31 (t:Am.AV):Am.AV:=c30 (F (T (F (I .i64 2 (Z (Q 1823 0 4 3 (I .i64 1 (Q 1833 0 1 1 (Z t)))))))))
def alx:Am.TB:= .cells 203 (c31 .nil)
def aly:Am.TB:= .cells 184 (Q 657 0 20 1 (Q 1991 0 22 9 (T (F .nil))))
def alz:Am.TB:= .cells 3 (I .i64 0 (I .i64 1 (I .i64 2 (I .i64 3 (I .i64 8 (I .i64 9 (I .i64 10 (I .i64 11 (I .i64 12 (I .i64 13 (I .i64 14 (I .i64 15 (I .i64 16 (I .i64 17 (I .i64 18 (I .i64 19 .nil))))))))))))))))
def alA:Am.TB:= .cells 201 (I .i64 1 (Q 1897 0 3 1 (Z .nil)))
def alB:Am.TB:= .cells 201 (I .i64 1 (Q 1921 0 3 1 (Z .nil)))
def alC:Am.TB:= .cells 201 (I .i64 1 (Q 1942 0 3 1 (Z .nil)))
def alD:Am.TB:= .cells 201 (I .i64 1 (Q 1907 0 1 1 (Z (I .i64 4 (Z (Q 1923 0 1 3 (I .i64 1 (Q 1928 0 1 1 (Z (I .i64 4 (Z (Q 1944 0 1 3 .nil))))))))))))
def alE:Am.TB:= .cells 201 (I .i64 2 (Z (Q 1946 0 4 3 .nil)))
def alF:Am.TB:= .cells 201 (I .i64 1 (Q 1969 0 3 1 (Z .nil)))
def alG:Am.TB:= .cells 201 (I .i64 1 (Q 1883 0 16 1 (Z (I .i64 4 (Z (Q 1899 0 1 3 (I .i64 4 (Z (Q 1950 0 1 3 (I .i64 1 (Q 1955 0 1 1 (Z (I .i64 4 (Z (Q 1971 0 1 3 .nil)))))))))))))))
def c32 (t:Am.AV):Am.AV:=c31 (F (F (F (I .i64 2 (Z (Q 1973 0 5 3 (I .i64 1 (Q 1983 0 1 1 (Z t)))))))))
def adO:Am.TB:= .cells 203 (c32 .nil)
def alH:Am.TB:= .cells 184 (Q 657 0 20 1 (Q 1991 0 22 9 (T (T .nil))))
def alI:List Am.jc:=[⟨124,(.cons (.ptr 659 0) (S 118 0x5e205b457874656e6420466f726d6174205a776a5d2a2028526567696f6e205b457874656e6420466f726d6174205a776a5d2a20526567696f6e205b457874656e6420466f726d6174205a776a5d2a292a20526567696f6e205b457874656e6420466f726d6174205a776a5d2a207e20526567696f6e .nil)),1732,[(659,alg),(1731,alk),(657,Ej)],(J .i64 0),1842,[(659,aln),(1747,mV),(1749,alo),(1757,PD),(1771,mV),(1773,alp),(1778,PD),(1792,mV),(1794,alq),(1796,alr),(1800,als),(1805,PD),(1819,mV),(1821,alu),(1823,alv),(1833,PD),(1841,alx)],[659,1731]⟩,⟨124,(.cons (.ptr 659 0) (S 144 0x5b5e526567696f6e20457874656e6420466f726d6174205a776a5d205b457874656e6420466f726d6174205a776a5d2a2028526567696f6e205b457874656e6420466f726d6174205a776a5d2a20526567696f6e205b457874656e6420466f726d6174205a776a5d2a292a20526567696f6e205b457874656e6420466f726d6174205a776a5d2a207e20526567696f6e .nil)),1842,[(659,aln),(1841,alx),(657,Ej)],(J .i64 0),1992,[(659,aly),(1883,alz),(1897,mV),(1899,alA),(1907,PD),(1921,mV),(1923,alB),(1928,PD),(1942,mV),(1944,alC),(1946,alD),(1950,alE),(1955,PD),(1969,mV),(1971,alF),(1973,alG),(1983,PD),(1991,adO)],[659,1841]⟩,⟨124,(.cons (.ptr 659 0) (S 6 0x72657374202f .nil)),1992,[(659,aly),(1991,adO),(657,Ej)],(J .i64 0),1992,[(659,alH)],[659]⟩,⟨124,(.cons (.ptr 659 0) (S 0 0 .nil)),1992,[(659,alH),(1991,adO),(657,Ej)],(J .i64 0),1992,[],[]⟩]
set_option maxRecDepth 1000000 in
theorem ahc:∀e∈alI,Am.vT Tryz.prog e:=oM rW (by kernel_rfl)
