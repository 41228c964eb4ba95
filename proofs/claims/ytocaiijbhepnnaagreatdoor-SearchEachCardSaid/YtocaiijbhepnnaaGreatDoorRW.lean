/- SearchEach: words' rules made, call by call, and what that leaves. -/
import Derived.Test.YtocaiijbhepnnaaGreatDoorMO1
import Derived.Test.YtocaiijbhepnnaaGreatDoorHG
set_option maxRecDepth 1000000
namespace Go.Proofs.YtocaiijbhepnnaaGreatDoor.searchEach
open Go.Proofs.YtocaiijbhepnnaaGreatDoor.Am
noncomputable section
open Go.Shelf Go.RowKit Go.Lib Go.Proofs.YtocaiijbhepnnaaGreatDoor.Am
def wss:List SD:=[⟨[1],[2],false,false⟩,⟨[1,2,3],[],false,true⟩,⟨[],[1,2,3],true,false⟩,⟨[5],[19],false,false⟩,⟨[18],[18],false,false⟩,⟨[],[4,5,6],true,false⟩,⟨[4,5,6,9,10],[9,10],false,false⟩,⟨[4,5,6,9,10],[11,13,14],false,false⟩,⟨[4,5,6,11,13,14],[9,10],false,false⟩,⟨[4,5,6,9],[11],false,false⟩,⟨[4,5,6,9],[12],false,false⟩,⟨[4,5,6,12],[9],false,false⟩,⟨[4,5,6,16],[16],false,false⟩,⟨[4,5,6,9,10],[16],false,false⟩,⟨[4,5,6,16],[9,10],false,false⟩,⟨[4,5,6,11,13,15],[16],false,false⟩,⟨[4,5,6,16],[11,13,15],false,false⟩,⟨[4,5,6,8],[8],false,false⟩,⟨[4,5,6,8,9,10,16,17],[17],false,false⟩,⟨[4,5,6,17],[8,9,10,16],false,false⟩,⟨[4,5,6,7],[7],false,false⟩,⟨[4,5,6,7],[7],false,false⟩]
def wb0:Am.TB:= .cells 188 (Q 634 0 20 1 (Q 635 0 20 1 .nil))
def wo0:List (Nat×Am.TB):=[(633,wb0),(634,DU)]
def wo1:List (Nat×Am.TB):=[(657,DU)]
def wo2:List (Nat×Am.TB):=[(715,b3),(728,b4),(752,b57),(790,b57),(806,b28),(819,b62),(835,b65),(848,b65),(879,l8),(901,Pe),(915,l8),(917,b72),(919,b73),(935,Pe),(957,Pe),(971,l8),(973,b76),(975,b77),(993,b78),(1007,l8),(1009,b79),(1020,Pe),(1023,b80),(1042,Pe),(1056,l8),(1058,b83),(1071,b78),(1085,l8),(1087,b84),(1089,b85),(1105,Pe),(1121,b15),(1135,l8),(1137,b88),(1139,b89),(1149,b16),(1165,b15),(1179,l8),(1181,b92),(1183,b93),(1193,b36),(1207,l8),(1209,b94),(1214,b15),(1217,b95),(1230,b15),(1244,l8),(1246,b98),(1251,b36),(1265,l8),(1267,b99),(1269,aj3),(1279,b15),(1295,yc),(1309,l8),(1311,aj6),(1313,aj7),(1323,yc),(1345,Pe),(1359,l8),(1361,akb),(1363,akc),(1373,yc),(1389,yc),(1403,l8),(1405,ake),(1407,akf),(1423,Pe),(1439,yc),(1453,l8),(1455,aki),(1468,ac5),(1482,l8),(1484,akj),(1486,akk),(1496,yc),(1512,yc),(1526,l8),(1528,ako),(1530,akp),(1548,ac5),(1562,l8),(1564,akq),(1569,yc),(1572,akr),(1585,b14),(1599,l8),(1601,aku),(1603,akv),(1613,b14),(1641,aky),(1655,l8),(1657,akz),(1659,akA),(1669,ac6),(1685,ac6),(1699,l8),(1701,akD),(1703,akE),(1723,akF),(1747,l8),(1749,akJ),(1757,O1),(1771,l8),(1773,akK),(1778,O1),(1792,l8),(1794,akL),(1796,akM),(1800,akN),(1805,O1),(1819,l8),(1821,akO),(1823,akP),(1833,O1),(1883,akS),(1897,l8),(1899,akT),(1907,O1),(1921,l8),(1923,akU),(1928,O1),(1942,l8),(1944,akV),(1946,akW),(1950,akX),(1955,O1),(1969,l8),(1971,akY),(1973,akZ),(1983,O1),(1991,ac7)]
def wag:Am.AV:=(.agg (Q 1991 0 22 9 (T .nil)))
def wd:Am.iR:=⟨75, .nil,633,[],(.ptr 633 0),656,wo0,[]⟩
def wn:Am.iR:=⟨77,(.cons (.ptr 633 0) .nil),656,wo0,(.slice 657 0 20 1 false),658,wo1,[]⟩
def wp:Am.iR:=⟨76,(.cons (.str Z6) (Q 657 0 20 1 .nil)),658,wo1,(.ig (.cons wag (I .i64 0 (I .i64 0 .nil)))),1992,wo2,[]⟩
def ws:Am.iR:=⟨126,(.cons wag .nil),1992,wo2,(.slice 5880 0 22 4 false),5881,[],[]⟩
theorem ak3:Am.aA (Am.fnOf Tryz.prog wd.f).isSome (Am.aA (Ag wd.f wd.args (Am.qx wd)).isNone (Am.aA (Am.UE wd) (Am.Ap wd (fun v h=>Am.Az h v (rZ Am.gW 19)) ((Am.run (Am.cB Tryz.prog ext Ag) (Nat.succ 3999)).call wd.f wd.args (Am.qx wd)))))=true:=by kernel_rfl
theorem ak4:Am.aA (Am.fnOf Tryz.prog wn.f).isSome (Am.aA (Ag wn.f wn.args (Am.qx wn)).isNone (Am.aA (Am.UE wn) (Am.Ap wn (fun _ _=>true) ((Am.run (Am.cB Tryz.prog ext Ag) (Nat.succ 3999)).call wn.f wn.args (Am.qx wn)))))=true:=by kernel_rfl
theorem ak5:Am.aA (Am.fnOf Tryz.prog wp.f).isSome (Am.aA (aaq wp.f wp.args (Am.qx wp)).isNone (Am.aA (Am.UE wp) (Am.Ap wp TP ((Am.run (Am.cB Tryz.prog ext aaq) (Nat.succ 3999)).call wp.f wp.args (Am.qx wp)))))=true:=by kernel_rfl
theorem ak6:Am.aA (Am.fnOf Tryz.prog ws.f).isSome (Am.aA (Ag ws.f ws.args (Am.qx ws)).isNone (Am.aA (Am.UE ws) (Am.Ap ws (fun v h=>Hg h v wss) ((Am.run (Am.cB Tryz.prog ext Ag) (Nat.succ 3999)).call ws.f ws.args (Am.qx ws)))))=true:=by kernel_rfl
theorem ak7:Am.jN (Am.tL wd (Am.qx wd)) wn.bi=true:=by kernel_rfl
theorem ak8:Am.jN (Am.tL wn (Am.tL wd (Am.qx wd))) wp.bi=true:=by kernel_rfl
theorem ak9:Am.jN (Am.tL wp (Am.tL wn (Am.tL wd (Am.qx wd)))) ws.bi=true:=by kernel_rfl
theorem adh (W:World):TK W:=
 aan mixed fZ (vF _) (vF _) qW TR wd wn wp ws wag _ wss ⟨⟨rfl,rfl⟩,rfl,rfl⟩ ⟨⟨rfl,rfl⟩,rfl,rfl,rfl⟩ ⟨⟨rfl,rfl⟩,rfl,rfl⟩ ⟨⟨by show 64≤633;omega,by show 633≤65536;omega⟩,rfl,rfl,rfl,rfl⟩ ak3 ak4 ak5 ak6 ak7 ak8 ak9 (by kernel_rfl) W
end
end Go.Proofs.YtocaiijbhepnnaaGreatDoor.searchEach
