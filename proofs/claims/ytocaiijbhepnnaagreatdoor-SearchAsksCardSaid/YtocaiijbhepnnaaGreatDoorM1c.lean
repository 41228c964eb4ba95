/- SearchAsks's closed run: calls at blocks that are there. -/
import Derived.Test.YtocaiijbhepnnaaGreatDoorTL
import Derived.Test.YtocaiijbhepnnaaGreatDoorM1b
import Derived.Test.YtocaiijbhepnnaaGreatDoorM0b
namespace Go.Proofs.YtocaiijbhepnnaaGreatDoor.searchAsks
open Go.Proofs.YtocaiijbhepnnaaGreatDoor.Am
noncomputable section
def b97:Am.TB:= .cells 184 (Q 657 0 20 1 (Q 1287 0 12 9 (T (F .nil))))
def b98:Am.TB:= .cells 201 (I .i64 1 (Q 1244 0 3 1 (Z .nil)))
def b99:Am.TB:= .cells 201 (I .i64 1 (Q 1265 0 3 1 (Z .nil)))
def ajJ:Am.TB:= .cells 201 (I .i64 1 (Q 1230 0 1 1 (Z (I .i64 4 (Z (Q 1246 0 1 3 (I .i64 1 (Q 1251 0 1 1 (Z (I .i64 4 (Z (Q 1267 0 1 3 .nil))))))))))))
def c22 (t:Am.AV):Am.AV:=c21 (F (F (F (I .i64 2 (Z (Q 1269 0 4 3 (I .i64 1 (Q 1279 0 1 1 (Z t)))))))))
def ajK:Am.TB:= .cells 203 (c22 .nil)
def ajL:Am.TB:= .cells 184 (Q 657 0 20 1 (Q 1331 0 13 9 (T (F .nil))))
def xU:Am.TB:= .cells 3 (I .i64 16 .nil)
def ajM:Am.TB:= .cells 201 (I .i64 1 (Q 1309 0 3 1 (Z .nil)))
def ajN:Am.TB:= .cells 201 (I .i64 1 (Q 1295 0 1 1 (Z (I .i64 4 (Z (Q 1311 0 1 3 .nil))))))
def c23 (t:Am.AV):Am.AV:=c22 (F (F (F (I .i64 2 (Z (Q 1313 0 2 3 (I .i64 1 (Q 1323 0 1 1 (Z t)))))))))
def ajO:Am.TB:= .cells 203 (c23 .nil)
def ajP:Am.TB:= .cells 184 (Q 657 0 20 1 (Q 1381 0 14 9 (T (F .nil))))
def ajQ:Am.TB:= .cells 201 (I .i64 1 (Q 1359 0 3 1 (Z .nil)))
def ajR:Am.TB:= .cells 201 (I .i64 1 (Q 1345 0 2 1 (Z (I .i64 4 (Z (Q 1361 0 1 3 .nil))))))
def c24 (t:Am.AV):Am.AV:=c23 (F (F (F (I .i64 2 (Z (Q 1363 0 2 3 (I .i64 1 (Q 1373 0 1 1 (Z t)))))))))
def b110:Am.TB:= .cells 203 (c24 .nil)
def ajS:Am.TB:= .cells 184 (Q 657 0 20 1 (Q 1431 0 15 9 (T (F .nil))))
def ajT:Am.TB:= .cells 201 (I .i64 1 (Q 1403 0 3 1 (Z .nil)))
def ajU:Am.TB:= .cells 201 (I .i64 1 (Q 1389 0 1 1 (Z (I .i64 4 (Z (Q 1405 0 1 3 .nil))))))
def c25 (t:Am.AV):Am.AV:=c24 (F (F (F (I .i64 2 (Z (Q 1407 0 2 3 (I .i64 1 (Q 1423 0 2 1 (Z t)))))))))
def ajV:Am.TB:= .cells 203 (c25 .nil)
def ajW:Am.TB:= .cells 184 (Q 657 0 20 1 (Q 1504 0 16 9 (T (F .nil))))
def ajX:Am.TB:= .cells 201 (I .i64 1 (Q 1453 0 3 1 (Z .nil)))
def acH:Am.TB:= .cells 3 (I .i64 11 (I .i64 13 (I .i64 15 .nil)))
def ajY:Am.TB:= .cells 201 (I .i64 1 (Q 1482 0 3 1 (Z .nil)))
def ajZ:Am.TB:= .cells 201 (I .i64 1 (Q 1439 0 1 1 (Z (I .i64 4 (Z (Q 1455 0 1 3 (I .i64 1 (Q 1468 0 3 1 (Z (I .i64 4 (Z (Q 1484 0 1 3 .nil))))))))))))
def c26 (t:Am.AV):Am.AV:=c25 (F (F (F (I .i64 2 (Z (Q 1486 0 4 3 (I .i64 1 (Q 1496 0 1 1 (Z t)))))))))
def aj0:Am.TB:= .cells 203 (c26 .nil)
def aj1:List Am.iR:=[⟨124,(.cons (.ptr 659 0) (S 64 3791687934052966730003736384547491426198723913599159181974903659709313035997522675758717117584969209529071238647562948499662070530199234033854238176732535 .nil)),1223,[(659,b91),(1222,b96),(657,Dy)],(J .i64 0),1288,[(659,b97),(1230,b15),(1244,l8),(1246,b98),(1251,b36),(1265,l8),(1267,b99),(1269,ajJ),(1279,b15),(1287,ajK)],[659,1222]⟩,⟨124,(.cons (.ptr 659 0) (S 34 2027913633356939315139468587601089442582635746393906730646886540112334545335314804 .nil)),1288,[(659,b97),(1287,ajK),(657,Dy)],(J .i64 0),1332,[(659,ajL),(1295,xU),(1309,l8),(1311,ajM),(1313,ajN),(1323,xU),(1331,ajO)],[659,1287]⟩,⟨124,(.cons (.ptr 659 0) (S 44 3271762608962699944174179155836064724725852427056154557092725093592856136234788480465966145357614294722932 .nil)),1332,[(659,ajL),(1331,ajO),(657,Dy)],(J .i64 0),1382,[(659,ajP),(1345,OT),(1359,l8),(1361,ajQ),(1363,ajR),(1373,xU),(1381,b110)],[659,1331]⟩,⟨124,(.cons (.ptr 659 0) (S 44 2451597151313718463733859557872187550270600009800402764711095463641380350298228693494283316741635425269597 .nil)),1382,[(659,ajP),(1381,b110),(657,Dy)],(J .i64 0),1432,[(659,ajS),(1389,xU),(1403,l8),(1405,ajT),(1407,ajU),(1423,OT),(1431,ajV)],[659,1381]⟩,⟨124,(.cons (.ptr 659 0) (S 80 1219236229664351882131620932798889958297374707269263773092380121546578289435886614160750077365373337820808458458942511247790208232282929043886568664285096275116088776945584568871439074341644660 .nil)),1432,[(659,ajS),(1431,ajV),(657,Dy)],(J .i64 0),1505,[(659,ajW),(1439,xU),(1453,l8),(1455,ajX),(1468,acH),(1482,l8),(1484,ajY),(1486,ajZ),(1496,xU),(1504,aj0)],[659,1431]⟩]
set_option maxRecDepth 1000000 in
theorem af8:∀e∈aj1,Am.uZ Tryz.prog e:=oM qO (by kernel_rfl)
end
end Go.Proofs.YtocaiijbhepnnaaGreatDoor.searchAsks
