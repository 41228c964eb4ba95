/- SearchWide: words' rules made, call by call, and what that leaves. -/
import Derived.Test.YtocaiijbhepnnaaGreatDoorMO1
import Derived.Test.YtocaiijbhepnnaaGreatDoorHG
set_option maxRecDepth 1000000
namespace Go.Proofs.YtocaiijbhepnnaaGreatDoor.searchWide
open Go.Proofs.YtocaiijbhepnnaaGreatDoor.Am
noncomputable section
open Go.Shelf Go.RowKit Go.Lib Go.Proofs.YtocaiijbhepnnaaGreatDoor.Am
def wss:List SD:=[⟨[1],[2],false,false⟩,⟨[1,2,3],[],false,true⟩,⟨[],[1,2,3],true,false⟩,⟨[5],[19],false,false⟩,⟨[18],[18],false,false⟩,⟨[],[4,5,6],true,false⟩,⟨[4,5,6,9,10],[9,10],false,false⟩,⟨[4,5,6,9,10],[11,13,14],false,false⟩,⟨[4,5,6,11,13,14],[9,10],false,false⟩,⟨[4,5,6,9],[11],false,false⟩,⟨[4,5,6,9],[12],false,false⟩,⟨[4,5,6,12],[9],false,false⟩,⟨[4,5,6,16],[16],false,false⟩,⟨[4,5,6,9,10],[16],false,false⟩,⟨[4,5,6,16],[9,10],false,false⟩,⟨[4,5,6,11,13,15],[16],false,false⟩,⟨[4,5,6,16],[11,13,15],false,false⟩,⟨[4,5,6,8],[8],false,false⟩,⟨[4,5,6,8,9,10,16,17],[17],false,false⟩,⟨[4,5,6,17],[8,9,10,16],false,false⟩,⟨[4,5,6,7],[7],false,false⟩,⟨[4,5,6,7],[7],false,false⟩]
def wb0:Am.TB:= .cells 188 (Q 634 0 20 1 (Q 635 0 20 1 .nil))
def wo0:List (Nat×Am.TB):=[(633,wb0),(634,Cg)]
def wo1:List (Nat×Am.TB):=[(657,Cg)]
def wo2:List (Nat×Am.TB):=[(715,b3),(728,b4),(752,b57),(790,b57),(806,b28),(819,b62),(835,b65),(848,b65),(879,kY),(901,M9),(915,kY),(917,b72),(919,b73),(935,M9),(957,M9),(971,kY),(973,b76),(975,b77),(993,b78),(1007,kY),(1009,b79),(1020,M9),(1023,b80),(1042,M9),(1056,kY),(1058,b83),(1071,b78),(1085,kY),(1087,b84),(1089,b85),(1105,M9),(1121,b15),(1135,kY),(1137,b88),(1139,b89),(1149,b16),(1165,b15),(1179,kY),(1181,b92),(1183,b93),(1193,b36),(1207,kY),(1209,b94),(1214,b15),(1217,b95),(1230,b15),(1244,kY),(1246,b98),(1251,b36),(1265,kY),(1267,b99),(1269,agJ),(1279,b15),(1295,wJ),(1309,kY),(1311,agM),(1313,agN),(1323,wJ),(1345,M9),(1359,kY),(1361,agQ),(1363,agR),(1373,wJ),(1389,wJ),(1403,kY),(1405,agT),(1407,agU),(1423,M9),(1439,wJ),(1453,kY),(1455,agX),(1468,aaf),(1482,kY),(1484,agY),(1486,agZ),(1496,wJ),(1512,wJ),(1526,kY),(1528,ag3),(1530,ag4),(1548,aaf),(1562,kY),(1564,ag5),(1569,wJ),(1572,ag6),(1585,b14),(1599,kY),(1601,ag9),(1603,aha),(1613,b14),(1641,ahd),(1655,kY),(1657,ahe),(1659,ahf),(1669,aag),(1685,aag),(1699,kY),(1701,ahi),(1703,ahj),(1723,ahk),(1747,kY),(1749,aho),(1757,M4),(1771,kY),(1773,ahp),(1778,M4),(1792,kY),(1794,ahq),(1796,ahr),(1800,ahs),(1805,M4),(1819,kY),(1821,aht),(1823,ahu),(1833,M4),(1883,ahx),(1897,kY),(1899,ahy),(1907,M4),(1921,kY),(1923,ahz),(1928,M4),(1942,kY),(1944,ahA),(1946,ahB),(1950,ahC),(1955,M4),(1969,kY),(1971,ahD),(1973,ahE),(1983,M4),(1991,aah)]
def wag:Am.AV:=(.agg (Q 1991 0 22 9 (T .nil)))
def wd:Am.gW:=⟨75, .nil,633,[],(.ptr 633 0),656,wo0,[]⟩
def wn:Am.gW:=⟨77,(.cons (.ptr 633 0) .nil),656,wo0,(.slice 657 0 20 1 false),658,wo1,[]⟩
def wp:Am.gW:=⟨76,(.cons (.str Xq) (Q 657 0 20 1 .nil)),658,wo1,(.fV (.cons wag (I .i64 0 (I .i64 0 .nil)))),1992,wo2,[]⟩
def ws:Am.gW:=⟨126,(.cons wag .nil),1992,wo2,(.slice 5880 0 22 4 false),5881,[],[]⟩
theorem abk:Am.aA (Am.fnOf Tryz.prog wd.f).isSome (Am.aA (AJ wd.f wd.args (Am.nA wd)).isNone (Am.aA (Am.P6 wd) (Am.o7 wd (λv h=>Am.aA (Am.zh h v (qH Am.dW 19)) (zT h v)) ((Am.run (Am.bY Tryz.prog ext AJ) (Nat.succ 3999)).call wd.f wd.args (Am.nA wd)))))=true:=by kernel_rfl
theorem ahI:Am.aA (Am.fnOf Tryz.prog wn.f).isSome (Am.aA (AJ wn.f wn.args (Am.nA wn)).isNone (Am.aA (Am.P6 wn) (Am.o7 wn (λ_ _=>true) ((Am.run (Am.bY Tryz.prog ext AJ) (Nat.succ 3999)).call wn.f wn.args (Am.nA wn)))))=true:=by kernel_rfl
theorem ahJ:Am.aA (Am.fnOf Tryz.prog wp.f).isSome (Am.aA (XE wp.f wp.args (Am.nA wp)).isNone (Am.aA (Am.P6 wp) (Am.o7 wp QZ ((Am.run (Am.bY Tryz.prog ext XE) (Nat.succ 3999)).call wp.f wp.args (Am.nA wp)))))=true:=by kernel_rfl
theorem ahK:Am.aA (Am.fnOf Tryz.prog ws.f).isSome (Am.aA (AJ ws.f ws.args (Am.nA ws)).isNone (Am.aA (Am.P6 ws) (Am.o7 ws (λv h=>FJ h v wss) ((Am.run (Am.bY Tryz.prog ext AJ) (Nat.succ 3999)).call ws.f ws.args (Am.nA ws)))))=true:=by kernel_rfl
theorem ahL:Am.jo (Am.rM wd (Am.nA wd)) wn.bi=true:=by kernel_rfl
theorem ahM:Am.jo (Am.rM wn (Am.rM wd (Am.nA wd))) wp.bi=true:=by kernel_rfl
theorem ahN:Am.jo (Am.rM wp (Am.rM wn (Am.rM wd (Am.nA wd)))) ws.bi=true:=by kernel_rfl
theorem aap (W:World):QO W:=
 XB mixed fC (wQ _) (wQ _) qc aai wd wn wp ws wag _ wss ⟨⟨rfl,rfl⟩,rfl,rfl⟩ ⟨⟨rfl,rfl⟩,rfl,rfl,rfl⟩ ⟨⟨rfl,rfl⟩,rfl,rfl⟩ ⟨⟨by show 64<=633;omega,by show 633<=65536;omega⟩,rfl,rfl,rfl,rfl⟩ (Z8 abk) ahI ahJ ahK ahL ahM ahN (by kernel_rfl) W
theorem adH (W:World):DbN W:=
 adv mixed fC (wQ _) qc wd rfl rfl rfl ⟨⟨by show 64<=633;omega,by show 633<=65536;omega⟩,rfl⟩ abk W
