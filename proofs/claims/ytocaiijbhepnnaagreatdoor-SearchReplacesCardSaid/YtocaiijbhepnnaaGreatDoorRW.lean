/- SearchReplaces: words' rules made, call by call, and what that leaves. -/
import Derived.Test.YtocaiijbhepnnaaGreatDoorMO1
import Derived.Test.YtocaiijbhepnnaaGreatDoorHG
set_option maxRecDepth 1000000
namespace Go.Proofs.YtocaiijbhepnnaaGreatDoor.searchReplaces
open Go.Proofs.YtocaiijbhepnnaaGreatDoor.Am
noncomputable section
open Go.Shelf Go.RowKit Go.Lib Go.Proofs.YtocaiijbhepnnaaGreatDoor.Am
def wss:List SD:=[⟨[1],[2],false,false⟩,⟨[1,2,3],[],false,true⟩,⟨[],[1,2,3],true,false⟩,⟨[5],[19],false,false⟩,⟨[18],[18],false,false⟩,⟨[],[4,5,6],true,false⟩,⟨[4,5,6,9,10],[9,10],false,false⟩,⟨[4,5,6,9,10],[11,13,14],false,false⟩,⟨[4,5,6,11,13,14],[9,10],false,false⟩,⟨[4,5,6,9],[11],false,false⟩,⟨[4,5,6,9],[12],false,false⟩,⟨[4,5,6,12],[9],false,false⟩,⟨[4,5,6,16],[16],false,false⟩,⟨[4,5,6,9,10],[16],false,false⟩,⟨[4,5,6,16],[9,10],false,false⟩,⟨[4,5,6,11,13,15],[16],false,false⟩,⟨[4,5,6,16],[11,13,15],false,false⟩,⟨[4,5,6,8],[8],false,false⟩,⟨[4,5,6,8,9,10,16,17],[17],false,false⟩,⟨[4,5,6,17],[8,9,10,16],false,false⟩,⟨[4,5,6,7],[7],false,false⟩,⟨[4,5,6,7],[7],false,false⟩]
def wb0:Am.TB:= .cells 188 (Q 634 0 20 1 (Q 635 0 20 1 .nil))
def wo0:List (Nat×Am.TB):=[(633,wb0),(634,Ej)]
def wo1:List (Nat×Am.TB):=[(657,Ej)]
def wo2:List (Nat×Am.TB):=[(715,b3),(728,b4),(752,b57),(790,b57),(806,b28),(819,b62),(835,b65),(848,b65),(879,mV),(901,PU),(915,mV),(917,b72),(919,b73),(935,PU),(957,PU),(971,mV),(973,b76),(975,b77),(993,b78),(1007,mV),(1009,b79),(1020,PU),(1023,b80),(1042,PU),(1056,mV),(1058,b83),(1071,b78),(1085,mV),(1087,b84),(1089,b85),(1105,PU),(1121,b15),(1135,mV),(1137,b88),(1139,b89),(1149,b16),(1165,b15),(1179,mV),(1181,b92),(1183,b93),(1193,b36),(1207,mV),(1209,b94),(1214,b15),(1217,b95),(1230,b15),(1244,mV),(1246,b98),(1251,b36),(1265,mV),(1267,b99),(1269,akI),(1279,b15),(1295,yN),(1309,mV),(1311,akL),(1313,akM),(1323,yN),(1345,PU),(1359,mV),(1361,akP),(1363,akQ),(1373,yN),(1389,yN),(1403,mV),(1405,akS),(1407,akT),(1423,PU),(1439,yN),(1453,mV),(1455,akW),(1468,adM),(1482,mV),(1484,akX),(1486,akY),(1496,yN),(1512,yN),(1526,mV),(1528,ak2),(1530,ak3),(1548,adM),(1562,mV),(1564,ak4),(1569,yN),(1572,ak5),(1585,b14),(1599,mV),(1601,ak8),(1603,ak9),(1613,b14),(1641,alc),(1655,mV),(1657,ald),(1659,ale),(1669,adN),(1685,adN),(1699,mV),(1701,alh),(1703,ali),(1723,alj),(1747,mV),(1749,alo),(1757,PD),(1771,mV),(1773,alp),(1778,PD),(1792,mV),(1794,alq),(1796,alr),(1800,als),(1805,PD),(1819,mV),(1821,alu),(1823,alv),(1833,PD),(1883,alz),(1897,mV),(1899,alA),(1907,PD),(1921,mV),(1923,alB),(1928,PD),(1942,mV),(1944,alC),(1946,alD),(1950,alE),(1955,PD),(1969,mV),(1971,alF),(1973,alG),(1983,PD),(1991,adO)]
def wag:Am.AV:=(.agg (Q 1991 0 22 9 (T .nil)))
def wd:Am.jc:=⟨75, .nil,633,[],(.ptr 633 0),656,wo0,[]⟩
def wn:Am.jc:=⟨77,(.cons (.ptr 633 0) .nil),656,wo0,(.slice 657 0 20 1 false),658,wo1,[]⟩
def wp:Am.jc:=⟨76,(.cons (.str aaL) (Q 657 0 20 1 .nil)),658,wo1,(.iE (.cons wag (I .i64 0 (I .i64 0 .nil)))),1992,wo2,[]⟩
def ws:Am.jc:=⟨126,(.cons wag .nil),1992,wo2,(.slice 5880 0 22 4 false),5881,[],[]⟩
theorem alK:Am.aA (Am.fnOf Tryz.prog wd.f).isSome (Am.aA (AQ wd.f wd.args (Am.qP wd)).isNone (Am.aA (Am.Vk wd) (Am.Bc wd (λv h=>Am.Bo h v (tq Am.iy 19)) ((Am.run (Am.dh Tryz.prog ext AQ) (Nat.succ 3999)).call wd.f wd.args (Am.qP wd)))))=true:=by kernel_rfl
theorem alL:Am.aA (Am.fnOf Tryz.prog wn.f).isSome (Am.aA (AQ wn.f wn.args (Am.qP wn)).isNone (Am.aA (Am.Vk wn) (Am.Bc wn (λ_ _=>true) ((Am.run (Am.dh Tryz.prog ext AQ) (Nat.succ 3999)).call wn.f wn.args (Am.qP wn)))))=true:=by kernel_rfl
theorem alM:Am.aA (Am.fnOf Tryz.prog wp.f).isSome (Am.aA (aa4 wp.f wp.args (Am.qP wp)).isNone (Am.aA (Am.Vk wp) (Am.Bc wp Uz ((Am.run (Am.dh Tryz.prog ext aa4) (Nat.succ 3999)).call wp.f wp.args (Am.qP wp)))))=true:=by kernel_rfl
theorem alN:Am.aA (Am.fnOf Tryz.prog ws.f).isSome (Am.aA (AQ ws.f ws.args (Am.qP ws)).isNone (Am.aA (Am.Vk ws) (Am.Bc ws (λv h=>Im h v wss) ((Am.run (Am.dh Tryz.prog ext AQ) (Nat.succ 3999)).call ws.f ws.args (Am.qP ws)))))=true:=by kernel_rfl
theorem alO:Am.jW (Am.uz wd (Am.qP wd)) wn.bi=true:=by kernel_rfl
theorem alP:Am.jW (Am.uz wn (Am.uz wd (Am.qP wd))) wp.bi=true:=by kernel_rfl
theorem alQ:Am.jW (Am.uz wp (Am.uz wn (Am.uz wd (Am.qP wd)))) ws.bi=true:=by kernel_rfl
theorem adW (W:World):Uv W:=
 aa1 mixed gH (vV _) (vV _) rW UC wd wn wp ws wag _ wss ⟨⟨rfl,rfl⟩,rfl,rfl⟩ ⟨⟨rfl,rfl⟩,rfl,rfl,rfl⟩ ⟨⟨rfl,rfl⟩,rfl,rfl⟩ ⟨⟨by show 64<=633;omega,by show 633<=65536;omega⟩,rfl,rfl,rfl,rfl⟩ alK alL alM alN alO alP alQ (by kernel_rfl) W
