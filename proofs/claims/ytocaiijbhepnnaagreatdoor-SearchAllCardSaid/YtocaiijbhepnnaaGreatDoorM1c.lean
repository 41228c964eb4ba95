/- SearchAll's closed run: calls at blocks that are there. -/
import Derived.Test.YtocaiijbhepnnaaGreatDoorTL
import Derived.Test.YtocaiijbhepnnaaGreatDoorM1b
import Derived.Test.YtocaiijbhepnnaaGreatDoorM0b
namespace Go.Proofs.YtocaiijbhepnnaaGreatDoor.searchAll
open Go.Proofs.YtocaiijbhepnnaaGreatDoor.Am
noncomputable section
def b97:Am.TB:= .cells 184 (Q 657 0 20 1 (Q 1287 0 12 9 (T (F .nil))))
def b98:Am.TB:= .cells 201 (I .i64 1 (Q 1244 0 3 1 (Z .nil)))
def b99:Am.TB:= .cells 201 (I .i64 1 (Q 1265 0 3 1 (Z .nil)))
def ajK:Am.TB:= .cells 201 (I .i64 1 (Q 1230 0 1 1 (Z (I .i64 4 (Z (Q 1246 0 1 3 (I .i64 1 (Q 1251 0 1 1 (Z (I .i64 4 (Z (Q 1267 0 1 3 .nil))))))))))))
def c22 (t:Am.AV):Am.AV:=c21 (F (F (F (I .i64 2 (Z (Q 1269 0 4 3 (I .i64 1 (Q 1279 0 1 1 (Z t)))))))))
def ajL:Am.TB:= .cells 203 (c22 .nil)
def ajM:Am.TB:= .cells 184 (Q 657 0 20 1 (Q 1331 0 13 9 (T (F .nil))))
def xW:Am.TB:= .cells 3 (I .i64 16 .nil)
def ajN:Am.TB:= .cells 201 (I .i64 1 (Q 1309 0 3 1 (Z .nil)))
def ajO:Am.TB:= .cells 201 (I .i64 1 (Q 1295 0 1 1 (Z (I .i64 4 (Z (Q 1311 0 1 3 .nil))))))
def c23 (t:Am.AV):Am.AV:=c22 (F (F (F (I .i64 2 (Z (Q 1313 0 2 3 (I .i64 1 (Q 1323 0 1 1 (Z t)))))))))
def ajP:Am.TB:= .cells 203 (c23 .nil)
def ajQ:Am.TB:= .cells 184 (Q 657 0 20 1 (Q 1381 0 14 9 (T (F .nil))))
def ajR:Am.TB:= .cells 201 (I .i64 1 (Q 1359 0 3 1 (Z .nil)))
def ajS:Am.TB:= .cells 201 (I .i64 1 (Q 1345 0 2 1 (Z (I .i64 4 (Z (Q 1361 0 1 3 .nil))))))
def c24 (t:Am.AV):Am.AV:=c23 (F (F (F (I .i64 2 (Z (Q 1363 0 2 3 (I .i64 1 (Q 1373 0 1 1 (Z t)))))))))
def b110:Am.TB:= .cells 203 (c24 .nil)
def ajT:Am.TB:= .cells 184 (Q 657 0 20 1 (Q 1431 0 15 9 (T (F .nil))))
def ajU:Am.TB:= .cells 201 (I .i64 1 (Q 1403 0 3 1 (Z .nil)))
def ajV:Am.TB:= .cells 201 (I .i64 1 (Q 1389 0 1 1 (Z (I .i64 4 (Z (Q 1405 0 1 3 .nil))))))
def c25 (t:Am.AV):Am.AV:=c24 (F (F (F (I .i64 2 (Z (Q 1407 0 2 3 (I .i64 1 (Q 1423 0 2 1 (Z t)))))))))
def ajW:Am.TB:= .cells 203 (c25 .nil)
def ajX:Am.TB:= .cells 184 (Q 657 0 20 1 (Q 1504 0 16 9 (T (F .nil))))
def ajY:Am.TB:= .cells 201 (I .i64 1 (Q 1453 0 3 1 (Z .nil)))
def acM:Am.TB:= .cells 3 (I .i64 11 (I .i64 13 (I .i64 15 .nil)))
def ajZ:Am.TB:= .cells 201 (I .i64 1 (Q 1482 0 3 1 (Z .nil)))
def aj0:Am.TB:= .cells 201 (I .i64 1 (Q 1439 0 1 1 (Z (I .i64 4 (Z (Q 1455 0 1 3 (I .i64 1 (Q 1468 0 3 1 (Z (I .i64 4 (Z (Q 1484 0 1 3 .nil))))))))))))
def c26 (t:Am.AV):Am.AV:=c25 (F (F (F (I .i64 2 (Z (Q 1486 0 4 3 (I .i64 1 (Q 1496 0 1 1 (Z t)))))))))
def aj1:Am.TB:= .cells 203 (c26 .nil)
def aj2:List Am.iP:=[⟨124,(.cons (.ptr 659 0) (S 64 3791687934052966730003736384547491426198723913599159181974903659709313035997522675758717117584969209529071238647562948499662070530199234033854238176732535 .nil)),1223,[(659,b91),(1222,b96),(657,Dz)],(J .i64 0),1288,[(659,b97),(1230,b15),(1244,l7),(1246,b98),(1251,b36),(1265,l7),(1267,b99),(1269,ajK),(1279,b15),(1287,ajL)],[659,1222]⟩,⟨124,(.cons (.ptr 659 0) (S 34 2027913633356939315139468587601089442582635746393906730646886540112334545335314804 .nil)),1288,[(659,b97),(1287,ajL),(657,Dz)],(J .i64 0),1332,[(659,ajM),(1295,xW),(1309,l7),(1311,ajN),(1313,ajO),(1323,xW),(1331,ajP)],[659,1287]⟩,⟨124,(.cons (.ptr 659 0) (S 44 3271762608962699944174179155836064724725852427056154557092725093592856136234788480465966145357614294722932 .nil)),1332,[(659,ajM),(1331,ajP),(657,Dz)],(J .i64 0),1382,[(659,ajQ),(1345,OT),(1359,l7),(1361,ajR),(1363,ajS),(1373,xW),(1381,b110)],[659,1331]⟩,⟨124,(.cons (.ptr 659 0) (S 44 2451597151313718463733859557872187550270600009800402764711095463641380350298228693494283316741635425269597 .nil)),1382,[(659,ajQ),(1381,b110),(657,Dz)],(J .i64 0),1432,[(659,ajT),(1389,xW),(1403,l7),(1405,ajU),(1407,ajV),(1423,OT),(1431,ajW)],[659,1381]⟩,⟨124,(.cons (.ptr 659 0) (S 80 1219236229664351882131620932798889958297374707269263773092380121546578289435886614160750077365373337820808458458942511247790208232282929043886568664285096275116088776945584568871439074341644660 .nil)),1432,[(659,ajT),(1431,ajW),(657,Dz)],(J .i64 0),1505,[(659,ajX),(1439,xW),(1453,l7),(1455,ajY),(1468,acM),(1482,l7),(1484,ajZ),(1486,aj0),(1496,xW),(1504,aj1)],[659,1431]⟩]
set_option maxRecDepth 1000000 in
theorem af6:∀e∈aj2,Am.vC Tryz.prog e:=oM qX (by kernel_rfl)
end
end Go.Proofs.YtocaiijbhepnnaaGreatDoor.searchAll
