/- SearchAll: words' rules made, call by call, and what that leaves. -/
import Derived.Test.YtocaiijbhepnnaaGreatDoorMO1
import Derived.Test.YtocaiijbhepnnaaGreatDoorHG
set_option maxRecDepth 1000000
namespace Go.Proofs.YtocaiijbhepnnaaGreatDoor.searchAll
open Go.Proofs.YtocaiijbhepnnaaGreatDoor.Am
noncomputable section
open Go.Shelf Go.RowKit Go.Lib Go.Proofs.YtocaiijbhepnnaaGreatDoor.Am
def wss:List SD:=[⟨[1],[2],false,false⟩,⟨[1,2,3],[],false,true⟩,⟨[],[1,2,3],true,false⟩,⟨[5],[19],false,false⟩,⟨[18],[18],false,false⟩,⟨[],[4,5,6],true,false⟩,⟨[4,5,6,9,10],[9,10],false,false⟩,⟨[4,5,6,9,10],[11,13,14],false,false⟩,⟨[4,5,6,11,13,14],[9,10],false,false⟩,⟨[4,5,6,9],[11],false,false⟩,⟨[4,5,6,9],[12],false,false⟩,⟨[4,5,6,12],[9],false,false⟩,⟨[4,5,6,16],[16],false,false⟩,⟨[4,5,6,9,10],[16],false,false⟩,⟨[4,5,6,16],[9,10],false,false⟩,⟨[4,5,6,11,13,15],[16],false,false⟩,⟨[4,5,6,16],[11,13,15],false,false⟩,⟨[4,5,6,8],[8],false,false⟩,⟨[4,5,6,8,9,10,16,17],[17],false,false⟩,⟨[4,5,6,17],[8,9,10,16],false,false⟩,⟨[4,5,6,7],[7],false,false⟩,⟨[4,5,6,7],[7],false,false⟩]
def wb0:Am.TB:= .cells 188 (Q 634 0 20 1 (Q 635 0 20 1 .nil))
def wo0:List (Nat×Am.TB):=[(633,wb0),(634,Dz)]
def wo1:List (Nat×Am.TB):=[(657,Dz)]
def wo2:List (Nat×Am.TB):=[(715,b3),(728,b4),(752,b57),(790,b57),(806,b28),(819,b62),(835,b65),(848,b65),(879,l7),(901,OT),(915,l7),(917,b72),(919,b73),(935,OT),(957,OT),(971,l7),(973,b76),(975,b77),(993,b78),(1007,l7),(1009,b79),(1020,OT),(1023,b80),(1042,OT),(1056,l7),(1058,b83),(1071,b78),(1085,l7),(1087,b84),(1089,b85),(1105,OT),(1121,b15),(1135,l7),(1137,b88),(1139,b89),(1149,b16),(1165,b15),(1179,l7),(1181,b92),(1183,b93),(1193,b36),(1207,l7),(1209,b94),(1214,b15),(1217,b95),(1230,b15),(1244,l7),(1246,b98),(1251,b36),(1265,l7),(1267,b99),(1269,ajK),(1279,b15),(1295,xW),(1309,l7),(1311,ajN),(1313,ajO),(1323,xW),(1345,OT),(1359,l7),(1361,ajR),(1363,ajS),(1373,xW),(1389,xW),(1403,l7),(1405,ajU),(1407,ajV),(1423,OT),(1439,xW),(1453,l7),(1455,ajY),(1468,acM),(1482,l7),(1484,ajZ),(1486,aj0),(1496,xW),(1512,xW),(1526,l7),(1528,aj4),(1530,aj5),(1548,acM),(1562,l7),(1564,aj6),(1569,xW),(1572,aj7),(1585,b14),(1599,l7),(1601,akb),(1603,akc),(1613,b14),(1641,akf),(1655,l7),(1657,akg),(1659,akh),(1669,acN),(1685,acN),(1699,l7),(1701,akk),(1703,akl),(1723,akm),(1747,l7),(1749,akq),(1757,OE),(1771,l7),(1773,akr),(1778,OE),(1792,l7),(1794,aks),(1796,akt),(1800,aku),(1805,OE),(1819,l7),(1821,akv),(1823,akw),(1833,OE),(1883,akz),(1897,l7),(1899,akA),(1907,OE),(1921,l7),(1923,akB),(1928,OE),(1942,l7),(1944,akC),(1946,akD),(1950,akE),(1955,OE),(1969,l7),(1971,akF),(1973,akG),(1983,OE),(1991,acO)]
def wag:Am.AV:=(.agg (Q 1991 0 22 9 (T .nil)))
def wd:Am.iP:=⟨75, .nil,633,[],(.ptr 633 0),656,wo0,[]⟩
def wn:Am.iP:=⟨77,(.cons (.ptr 633 0) .nil),656,wo0,(.slice 657 0 20 1 false),658,wo1,[]⟩
def wp:Am.iP:=⟨76,(.cons (.str ZP) (Q 657 0 20 1 .nil)),658,wo1,(.gY (.cons wag (I .i64 0 (I .i64 0 .nil)))),1992,wo2,[]⟩
def ws:Am.iP:=⟨126,(.cons wag .nil),1992,wo2,(.slice 5880 0 22 4 false),5881,[],[]⟩
theorem akK:Am.aA (Am.fnOf Tryz.prog wd.f).isSome (Am.aA (zZ wd.f wd.args (Am.qw wd)).isNone (Am.aA (Am.Uo wd) (Am.Af wd (fun v h=>Am.Ar h v (rY Am.gV 19)) ((Am.run (Am.cu Tryz.prog ext zZ) (Nat.succ 3999)).call wd.f wd.args (Am.qw wd)))))=true:=by kernel_rfl
theorem akL:Am.aA (Am.fnOf Tryz.prog wn.f).isSome (Am.aA (zZ wn.f wn.args (Am.qw wn)).isNone (Am.aA (Am.Uo wn) (Am.Af wn (fun _ _=>true) ((Am.run (Am.cu Tryz.prog ext zZ) (Nat.succ 3999)).call wn.f wn.args (Am.qw wn)))))=true:=by kernel_rfl
theorem akM:Am.aA (Am.fnOf Tryz.prog wp.f).isSome (Am.aA (Z8 wp.f wp.args (Am.qw wp)).isNone (Am.aA (Am.Uo wp) (Am.Af wp Tw ((Am.run (Am.cu Tryz.prog ext Z8) (Nat.succ 3999)).call wp.f wp.args (Am.qw wp)))))=true:=by kernel_rfl
theorem akN:Am.aA (Am.fnOf Tryz.prog ws.f).isSome (Am.aA (zZ ws.f ws.args (Am.qw ws)).isNone (Am.aA (Am.Uo ws) (Am.Af ws (fun v h=>GY h v wss) ((Am.run (Am.cu Tryz.prog ext zZ) (Nat.succ 3999)).call ws.f ws.args (Am.qw ws)))))=true:=by kernel_rfl
theorem akO:Am.jO (Am.tK wd (Am.qw wd)) wn.bi=true:=by kernel_rfl
theorem akP:Am.jO (Am.tK wn (Am.tK wd (Am.qw wd))) wp.bi=true:=by kernel_rfl
theorem akQ:Am.jO (Am.tK wp (Am.tK wn (Am.tK wd (Am.qw wd)))) ws.bi=true:=by kernel_rfl
theorem acW (W:World):Tp W:=
 Z5 mixed fZ (vE _) (vE _) qX Tz wd wn wp ws wag _ wss ⟨⟨rfl,rfl⟩,rfl,rfl⟩ ⟨⟨rfl,rfl⟩,rfl,rfl,rfl⟩ ⟨⟨rfl,rfl⟩,rfl,rfl⟩ ⟨⟨by show 64≤633;omega,by show 633≤65536;omega⟩,rfl,rfl,rfl,rfl⟩ akK akL akM akN akO akP akQ (by kernel_rfl) W
end
end Go.Proofs.YtocaiijbhepnnaaGreatDoor.searchAll
