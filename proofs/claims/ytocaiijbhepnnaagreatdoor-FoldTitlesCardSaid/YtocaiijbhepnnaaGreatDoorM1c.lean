/- FoldTitles's closed run: calls at blocks that are there. -/
import Derived.Test.YtocaiijbhepnnaaGreatDoorM1b
namespace Go.Proofs.YtocaiijbhepnnaaGreatDoor.foldTitles
open Go.Proofs.YtocaiijbhepnnaaGreatDoor.Am
noncomputable section
def b97:Am.TB:= .cells 184 (Q 657 0 20 1 (Q 1287 0 12 9 (T (F .nil))))
def b98:Am.TB:= .cells 201 (I .i64 1 (Q 1244 0 3 1 (Z .nil)))
def b99:Am.TB:= .cells 201 (I .i64 1 (Q 1265 0 3 1 (Z .nil)))
def aiG:Am.TB:= .cells 201 (I .i64 1 (Q 1230 0 1 1 (Z (I .i64 4 (Z (Q 1246 0 1 3 (I .i64 1 (Q 1251 0 1 1 (Z (I .i64 4 (Z (Q 1267 0 1 3 .nil))))))))))))
def c22 (t:Am.AV):Am.AV:=c21 (F (F (F (I .i64 2 (Z (Q 1269 0 4 3 (I .i64 1 (Q 1279 0 1 1 (Z t)))))))))
def afM:Am.TB:= .cells 203 (c22 .nil)
def afN:Am.TB:= .cells 184 (Q 657 0 20 1 (Q 1331 0 13 9 (T (F .nil))))
def LZ:Am.TB:= .cells 3 (I .i64 16 .nil)
def aiH:Am.TB:= .cells 201 (I .i64 1 (Q 1309 0 3 1 (Z .nil)))
def aiI:Am.TB:= .cells 201 (I .i64 1 (Q 1295 0 1 1 (Z (I .i64 4 (Z (Q 1311 0 1 3 .nil))))))
def c23 (t:Am.AV):Am.AV:=c22 (F (F (F (I .i64 2 (Z (Q 1313 0 2 3 (I .i64 1 (Q 1323 0 1 1 (Z t)))))))))
def afO:Am.TB:= .cells 203 (c23 .nil)
def afP:Am.TB:= .cells 184 (Q 657 0 20 1 (Q 1381 0 14 9 (T (F .nil))))
def aiJ:Am.TB:= .cells 201 (I .i64 1 (Q 1359 0 3 1 (Z .nil)))
def aiK:Am.TB:= .cells 201 (I .i64 1 (Q 1345 0 2 1 (Z (I .i64 4 (Z (Q 1361 0 1 3 .nil))))))
def c24 (t:Am.AV):Am.AV:=c23 (F (F (F (I .i64 2 (Z (Q 1363 0 2 3 (I .i64 1 (Q 1373 0 1 1 (Z t)))))))))
def b110:Am.TB:= .cells 203 (c24 .nil)
def afQ:Am.TB:= .cells 184 (Q 657 0 20 1 (Q 1431 0 15 9 (T (F .nil))))
def aiL:Am.TB:= .cells 201 (I .i64 1 (Q 1403 0 3 1 (Z .nil)))
def aiM:Am.TB:= .cells 201 (I .i64 1 (Q 1389 0 1 1 (Z (I .i64 4 (Z (Q 1405 0 1 3 .nil))))))
def c25 (t:Am.AV):Am.AV:=c24 (F (F (F (I .i64 2 (Z (Q 1407 0 2 3 (I .i64 1 (Q 1423 0 2 1 (Z t)))))))))
def afR:Am.TB:= .cells 203 (c25 .nil)
def afS:Am.TB:= .cells 184 (Q 657 0 20 1 (Q 1504 0 16 9 (T (F .nil))))
def aiN:Am.TB:= .cells 201 (I .i64 1 (Q 1453 0 3 1 (Z .nil)))
def afT:Am.TB:= .cells 3 (I .i64 11 (I .i64 13 (I .i64 15 .nil)))
def aiO:Am.TB:= .cells 201 (I .i64 1 (Q 1482 0 3 1 (Z .nil)))
def aiP:Am.TB:= .cells 201 (I .i64 1 (Q 1439 0 1 1 (Z (I .i64 4 (Z (Q 1455 0 1 3 (I .i64 1 (Q 1468 0 3 1 (Z (I .i64 4 (Z (Q 1484 0 1 3 .nil))))))))))))
def c26 (t:Am.AV):Am.AV:=c25 (F (F (F (I .i64 2 (Z (Q 1486 0 4 3 (I .i64 1 (Q 1496 0 1 1 (Z t)))))))))
def afU:Am.TB:= .cells 203 (c26 .nil)
def afV:List Am.jk:=[⟨124,(.cons (.ptr 659 0) (S 64 0x486562726577205b457874656e6420466f726d6174205a776a5d2a20446f75626c65205b457874656e6420466f726d6174205a776a5d2a207e20486562726577 .nil)),1223,[(659,b91),(1222,b96),(657,Da)],(J .i64 0),1288,[(659,b97),(1230,b15),(1244,zG),(1246,b98),(1251,b36),(1265,zG),(1267,b99),(1269,aiG),(1279,b15),(1287,afM)],[659,1222]⟩,⟨124,(.cons (.ptr 659 0) (S 34 0x4469676974205b457874656e6420466f726d6174205a776a5d2a207e204469676974 .nil)),1288,[(659,b97),(1287,afM),(657,Da)],(J .i64 0),1332,[(659,afN),(1295,LZ),(1309,zG),(1311,aiH),(1313,aiI),(1323,LZ),(1331,afO)],[659,1287]⟩,⟨124,(.cons (.ptr 659 0) (S 44 0x5b4c6574746572204865627265775d205b457874656e6420466f726d6174205a776a5d2a207e204469676974 .nil)),1332,[(659,afN),(1331,afO),(657,Da)],(J .i64 0),1382,[(659,afP),(1345,b71),(1359,zG),(1361,aiJ),(1363,aiK),(1373,LZ),(1381,b110)],[659,1331]⟩,⟨124,(.cons (.ptr 659 0) (S 44 0x4469676974205b457874656e6420466f726d6174205a776a5d2a207e205b4c6574746572204865627265775d .nil)),1382,[(659,afP),(1381,b110),(657,Da)],(J .i64 0),1432,[(659,afQ),(1389,LZ),(1403,zG),(1405,aiL),(1407,aiM),(1423,b71),(1431,afR)],[659,1381]⟩,⟨124,(.cons (.ptr 659 0) (S 80 0x4469676974205b457874656e6420466f726d6174205a776a5d2a205b4d69644e756d204d69644e756d4c65742051756f74655d205b457874656e6420466f726d6174205a776a5d2a207e204469676974 .nil)),1432,[(659,afQ),(1431,afR),(657,Da)],(J .i64 0),1505,[(659,afS),(1439,LZ),(1453,zG),(1455,aiN),(1468,afT),(1482,zG),(1484,aiO),(1486,aiP),(1496,LZ),(1504,afU)],[659,1431]⟩]
set_option maxRecDepth 1000000 in
theorem acy:∀e∈afV,Am.xD Tryz.prog e:=oM uQ (by kernel_rfl)
