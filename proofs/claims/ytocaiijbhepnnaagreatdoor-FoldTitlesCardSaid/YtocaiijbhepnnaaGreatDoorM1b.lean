/- FoldTitles's closed run: calls at blocks that are there. -/
import Derived.Test.YtocaiijbhepnnaaGreatDoorM1a
namespace Go.Proofs.YtocaiijbhepnnaaGreatDoor.foldTitles
open Go.Proofs.YtocaiijbhepnnaaGreatDoor.Am
noncomputable section
def b75:Am.TB:= .cells 184 (Q 657 0 20 1 (Q 1028 0 8 9 (T (F .nil))))
def b76:Am.TB:= .cells 201 (I .i64 1 (Q 971 0 3 1 (Z .nil)))
def b77:Am.TB:= .cells 201 (I .i64 1 (Q 957 0 2 1 (Z (I .i64 4 (Z (Q 973 0 1 3 .nil))))))
def b78:Am.TB:= .cells 3 (I .i64 11 (I .i64 13 (I .i64 14 .nil)))
def b79:Am.TB:= .cells 201 (I .i64 1 (Q 1007 0 3 1 (Z .nil)))
def b80:Am.TB:= .cells 201 (I .i64 1 (Q 993 0 3 1 (Z (I .i64 4 (Z (Q 1009 0 1 3 (I .i64 1 (Q 1020 0 2 1 (Z .nil)))))))))
def c18 (t:Am.AV):Am.AV:=c17 (F (F (F (I .i64 2 (Z (Q 975 0 2 3 (I .i64 2 (Z (Q 1023 0 3 3 t)))))))))
def b81:Am.TB:= .cells 203 (c18 .nil)
def b82:Am.TB:= .cells 184 (Q 657 0 20 1 (Q 1113 0 9 9 (T (F .nil))))
def b83:Am.TB:= .cells 201 (I .i64 1 (Q 1056 0 3 1 (Z .nil)))
def b84:Am.TB:= .cells 201 (I .i64 1 (Q 1085 0 3 1 (Z .nil)))
def b85:Am.TB:= .cells 201 (I .i64 1 (Q 1042 0 2 1 (Z (I .i64 4 (Z (Q 1058 0 1 3 (I .i64 1 (Q 1071 0 3 1 (Z (I .i64 4 (Z (Q 1087 0 1 3 .nil))))))))))))
def c19 (t:Am.AV):Am.AV:=c18 (F (F (F (I .i64 2 (Z (Q 1089 0 4 3 (I .i64 1 (Q 1105 0 2 1 (Z t)))))))))
def b86:Am.TB:= .cells 203 (c19 .nil)
def b87:Am.TB:= .cells 184 (Q 657 0 20 1 (Q 1157 0 10 9 (T (F .nil))))
def b88:Am.TB:= .cells 201 (I .i64 1 (Q 1135 0 3 1 (Z .nil)))
def b89:Am.TB:= .cells 201 (I .i64 1 (Q 1121 0 1 1 (Z (I .i64 4 (Z (Q 1137 0 1 3 .nil))))))
def c20 (t:Am.AV):Am.AV:=c19 (F (F (F (I .i64 2 (Z (Q 1139 0 2 3 (I .i64 1 (Q 1149 0 1 1 (Z t)))))))))
def b90:Am.TB:= .cells 203 (c20 .nil)
def b91:Am.TB:= .cells 184 (Q 657 0 20 1 (Q 1222 0 11 9 (T (F .nil))))
def b92:Am.TB:= .cells 201 (I .i64 1 (Q 1179 0 3 1 (Z .nil)))
def b93:Am.TB:= .cells 201 (I .i64 1 (Q 1165 0 1 1 (Z (I .i64 4 (Z (Q 1181 0 1 3 .nil))))))
def b94:Am.TB:= .cells 201 (I .i64 1 (Q 1207 0 3 1 (Z .nil)))
def b95:Am.TB:= .cells 201 (I .i64 1 (Q 1193 0 1 1 (Z (I .i64 4 (Z (Q 1209 0 1 3 (I .i64 1 (Q 1214 0 1 1 (Z .nil)))))))))
def c21 (t:Am.AV):Am.AV:=c20 (F (F (F (I .i64 2 (Z (Q 1183 0 2 3 (I .i64 2 (Z (Q 1217 0 3 3 t)))))))))
def b96:Am.TB:= .cells 203 (c21 .nil)
def afL:List Am.jk:=[⟨124,(.cons (.ptr 659 0) (S 103 0x5b4c6574746572204865627265775d205b457874656e6420466f726d6174205a776a5d2a207e205b4d69644c6574746572204d69644e756d4c65742051756f74655d205b457874656e6420466f726d6174205a776a5d2a205b4c6574746572204865627265775d .nil)),944,[(659,b70),(943,b74),(657,Da)],(J .i64 0),1029,[(659,b75),(957,b71),(971,zG),(973,b76),(975,b77),(993,b78),(1007,zG),(1009,b79),(1020,b71),(1023,b80),(1028,b81)],[659,943]⟩,⟨124,(.cons (.ptr 659 0) (S 103 0x5b4c6574746572204865627265775d205b457874656e6420466f726d6174205a776a5d2a205b4d69644c6574746572204d69644e756d4c65742051756f74655d205b457874656e6420466f726d6174205a776a5d2a207e205b4c6574746572204865627265775d .nil)),1029,[(659,b75),(1028,b81),(657,Da)],(J .i64 0),1114,[(659,b82),(1042,b71),(1056,zG),(1058,b83),(1071,b78),(1085,zG),(1087,b84),(1089,b85),(1105,b71),(1113,b86)],[659,1028]⟩,⟨124,(.cons (.ptr 659 0) (S 35 0x486562726577205b457874656e6420466f726d6174205a776a5d2a207e2051756f7465 .nil)),1114,[(659,b82),(1113,b86),(657,Da)],(J .i64 0),1158,[(659,b87),(1121,b15),(1135,zG),(1137,b88),(1139,b89),(1149,b16),(1157,b90)],[659,1113]⟩,⟨124,(.cons (.ptr 659 0) (S 64 0x486562726577205b457874656e6420466f726d6174205a776a5d2a207e20446f75626c65205b457874656e6420466f726d6174205a776a5d2a20486562726577 .nil)),1158,[(659,b87),(1157,b90),(657,Da)],(J .i64 0),1223,[(659,b91),(1165,b15),(1179,zG),(1181,b92),(1183,b93),(1193,b36),(1207,zG),(1209,b94),(1214,b15),(1217,b95),(1222,b96)],[659,1157]⟩]
set_option maxRecDepth 1000000 in
theorem acw:∀e∈afL,Am.xD Tryz.prog e:=oM uQ (by kernel_rfl)
