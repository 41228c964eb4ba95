/- SearchAsks: words' rules made, call by call, and what that leaves. -/
import Derived.Test.YtocaiijbhepnnaaGreatDoorMO1
import Derived.Test.YtocaiijbhepnnaaGreatDoorHG
set_option maxRecDepth 1000000
namespace Go.Proofs.YtocaiijbhepnnaaGreatDoor.searchAsks
open Go.Proofs.YtocaiijbhepnnaaGreatDoor.Am
noncomputable section
open Go.Shelf Go.RowKit Go.Lib Go.Proofs.YtocaiijbhepnnaaGreatDoor.Am
def wss:List SD:=[⟨[1],[2],false,false⟩,⟨[1,2,3],[],false,true⟩,⟨[],[1,2,3],true,false⟩,⟨[5],[19],false,false⟩,⟨[18],[18],false,false⟩,⟨[],[4,5,6],true,false⟩,⟨[4,5,6,9,10],[9,10],false,false⟩,⟨[4,5,6,9,10],[11,13,14],false,false⟩,⟨[4,5,6,11,13,14],[9,10],false,false⟩,⟨[4,5,6,9],[11],false,false⟩,⟨[4,5,6,9],[12],false,false⟩,⟨[4,5,6,12],[9],false,false⟩,⟨[4,5,6,16],[16],false,false⟩,⟨[4,5,6,9,10],[16],false,false⟩,⟨[4,5,6,16],[9,10],false,false⟩,⟨[4,5,6,11,13,15],[16],false,false⟩,⟨[4,5,6,16],[11,13,15],false,false⟩,⟨[4,5,6,8],[8],false,false⟩,⟨[4,5,6,8,9,10,16,17],[17],false,false⟩,⟨[4,5,6,17],[8,9,10,16],false,false⟩,⟨[4,5,6,7],[7],false,false⟩,⟨[4,5,6,7],[7],false,false⟩]
def wb0:Am.TB:= .cells 188 (Q 634 0 20 1 (Q 635 0 20 1 .nil))
def wo0:List (Nat×Am.TB):=[(633,wb0),(634,Dy)]
def wo1:List (Nat×Am.TB):=[(657,Dy)]
def wo2:List (Nat×Am.TB):=[(715,b3),(728,b4),(752,b57),(790,b57),(806,b28),(819,b62),(835,b65),(848,b65),(879,l8),(901,OT),(915,l8),(917,b72),(919,b73),(935,OT),(957,OT),(971,l8),(973,b76),(975,b77),(993,b78),(1007,l8),(1009,b79),(1020,OT),(1023,b80),(1042,OT),(1056,l8),(1058,b83),(1071,b78),(1085,l8),(1087,b84),(1089,b85),(1105,OT),(1121,b15),(1135,l8),(1137,b88),(1139,b89),(1149,b16),(1165,b15),(1179,l8),(1181,b92),(1183,b93),(1193,b36),(1207,l8),(1209,b94),(1214,b15),(1217,b95),(1230,b15),(1244,l8),(1246,b98),(1251,b36),(1265,l8),(1267,b99),(1269,ajJ),(1279,b15),(1295,xU),(1309,l8),(1311,ajM),(1313,ajN),(1323,xU),(1345,OT),(1359,l8),(1361,ajQ),(1363,ajR),(1373,xU),(1389,xU),(1403,l8),(1405,ajT),(1407,ajU),(1423,OT),(1439,xU),(1453,l8),(1455,ajX),(1468,acH),(1482,l8),(1484,ajY),(1486,ajZ),(1496,xU),(1512,xU),(1526,l8),(1528,aj3),(1530,aj4),(1548,acH),(1562,l8),(1564,aj5),(1569,xU),(1572,aj6),(1585,b14),(1599,l8),(1601,aj9),(1603,akb),(1613,b14),(1641,ake),(1655,l8),(1657,akf),(1659,akg),(1669,acI),(1685,acI),(1699,l8),(1701,akj),(1703,akk),(1723,akl),(1747,l8),(1749,akp),(1757,OE),(1771,l8),(1773,akq),(1778,OE),(1792,l8),(1794,akr),(1796,aks),(1800,akt),(1805,OE),(1819,l8),(1821,aku),(1823,akv),(1833,OE),(1883,aky),(1897,l8),(1899,akz),(1907,OE),(1921,l8),(1923,akA),(1928,OE),(1942,l8),(1944,akB),(1946,akC),(1950,akD),(1955,OE),(1969,l8),(1971,akE),(1973,akF),(1983,OE),(1991,acJ)]
def wag:Am.AV:=(.agg (Q 1991 0 22 9 (T .nil)))
def wd:Am.iR:=⟨75, .nil,633,[],(.ptr 633 0),656,wo0,[]⟩
def wn:Am.iR:=⟨77,(.cons (.ptr 633 0) .nil),656,wo0,(.slice 657 0 20 1 false),658,wo1,[]⟩
def wp:Am.iR:=⟨76,(.cons (.str ZL) (Q 657 0 20 1 .nil)),658,wo1,(.iq (.cons wag (I .i64 0 (I .i64 0 .nil)))),1992,wo2,[]⟩
def ws:Am.iR:=⟨126,(.cons wag .nil),1992,wo2,(.slice 5880 0 22 4 false),5881,[],[]⟩
theorem akJ:Am.aA (Am.fnOf Tryz.prog wd.f).isSome (Am.aA (zV wd.f wd.args (Am.ql wd)).isNone (Am.aA (Am.Un wd) (Am.Aa wd (fun v h=>Am.Aj h v (rR Am.gW 19)) ((Am.run (Am.cK Tryz.prog ext zV) (Nat.succ 3999)).call wd.f wd.args (Am.ql wd)))))=true:=by kernel_rfl
theorem akK:Am.aA (Am.fnOf Tryz.prog wn.f).isSome (Am.aA (zV wn.f wn.args (Am.ql wn)).isNone (Am.aA (Am.Un wn) (Am.Aa wn (fun _ _=>true) ((Am.run (Am.cK Tryz.prog ext zV) (Nat.succ 3999)).call wn.f wn.args (Am.ql wn)))))=true:=by kernel_rfl
theorem akL:Am.aA (Am.fnOf Tryz.prog wp.f).isSome (Am.aA (Z0 wp.f wp.args (Am.ql wp)).isNone (Am.aA (Am.Un wp) (Am.Aa wp Tv ((Am.run (Am.cK Tryz.prog ext Z0) (Nat.succ 3999)).call wp.f wp.args (Am.ql wp)))))=true:=by kernel_rfl
theorem akM:Am.aA (Am.fnOf Tryz.prog ws.f).isSome (Am.aA (zV ws.f ws.args (Am.ql ws)).isNone (Am.aA (Am.Un ws) (Am.Aa ws (fun v h=>GX h v wss) ((Am.run (Am.cK Tryz.prog ext zV) (Nat.succ 3999)).call ws.f ws.args (Am.ql ws)))))=true:=by kernel_rfl
theorem akN:Am.jN (Am.tu wd (Am.ql wd)) wn.bi=true:=by kernel_rfl
theorem akO:Am.jN (Am.tu wn (Am.tu wd (Am.ql wd))) wp.bi=true:=by kernel_rfl
theorem akP:Am.jN (Am.tu wp (Am.tu wn (Am.tu wd (Am.ql wd)))) ws.bi=true:=by kernel_rfl
theorem acR (W:World):Tp W:=
 ZW mixed gu (vw _) (vw _) qO Tx wd wn wp ws wag _ wss ⟨⟨rfl,rfl⟩,rfl,rfl⟩ ⟨⟨rfl,rfl⟩,rfl,rfl,rfl⟩ ⟨⟨rfl,rfl⟩,rfl,rfl⟩ ⟨⟨by show 64≤633;omega,by show 633≤65536;omega⟩,rfl,rfl,rfl,rfl⟩ akJ akK akL akM akN akO akP (by kernel_rfl) W
end
end Go.Proofs.YtocaiijbhepnnaaGreatDoor.searchAsks
