/- SearchEach's closed run: calls at blocks that are there. -/
import Derived.Test.YtocaiijbhepnnaaGreatDoorTL
import Derived.Test.YtocaiijbhepnnaaGreatDoorM1b
import Derived.Test.YtocaiijbhepnnaaGreatDoorM0b
namespace Go.Proofs.YtocaiijbhepnnaaGreatDoor.searchEach
open Go.Proofs.YtocaiijbhepnnaaGreatDoor.Am
noncomputable section
def b97:Am.TB:= .cells 184 (Q 657 0 20 1 (Q 1287 0 12 9 (T (F .nil))))
def b98:Am.TB:= .cells 201 (I .i64 1 (Q 1244 0 3 1 (Z .nil)))
def b99:Am.TB:= .cells 201 (I .i64 1 (Q 1265 0 3 1 (Z .nil)))
def aj3:Am.TB:= .cells 201 (I .i64 1 (Q 1230 0 1 1 (Z (I .i64 4 (Z (Q 1246 0 1 3 (I .i64 1 (Q 1251 0 1 1 (Z (I .i64 4 (Z (Q 1267 0 1 3 .nil))))))))))))
def c22 (t:Am.AV):Am.AV:=c21 (F (F (F (I .i64 2 (Z (Q 1269 0 4 3 (I .i64 1 (Q 1279 0 1 1 (Z t)))))))))
def aj4:Am.TB:= .cells 203 (c22 .nil)
def aj5:Am.TB:= .cells 184 (Q 657 0 20 1 (Q 1331 0 13 9 (T (F .nil))))
def yc:Am.TB:= .cells 3 (I .i64 16 .nil)
def aj6:Am.TB:= .cells 201 (I .i64 1 (Q 1309 0 3 1 (Z .nil)))
def aj7:Am.TB:= .cells 201 (I .i64 1 (Q 1295 0 1 1 (Z (I .i64 4 (Z (Q 1311 0 1 3 .nil))))))
def c23 (t:Am.AV):Am.AV:=c22 (F (F (F (I .i64 2 (Z (Q 1313 0 2 3 (I .i64 1 (Q 1323 0 1 1 (Z t)))))))))
def aj8:Am.TB:= .cells 203 (c23 .nil)
def aj9:Am.TB:= .cells 184 (Q 657 0 20 1 (Q 1381 0 14 9 (T (F .nil))))
def akb:Am.TB:= .cells 201 (I .i64 1 (Q 1359 0 3 1 (Z .nil)))
def akc:Am.TB:= .cells 201 (I .i64 1 (Q 1345 0 2 1 (Z (I .i64 4 (Z (Q 1361 0 1 3 .nil))))))
def c24 (t:Am.AV):Am.AV:=c23 (F (F (F (I .i64 2 (Z (Q 1363 0 2 3 (I .i64 1 (Q 1373 0 1 1 (Z t)))))))))
def b110:Am.TB:= .cells 203 (c24 .nil)
def akd:Am.TB:= .cells 184 (Q 657 0 20 1 (Q 1431 0 15 9 (T (F .nil))))
def ake:Am.TB:= .cells 201 (I .i64 1 (Q 1403 0 3 1 (Z .nil)))
def akf:Am.TB:= .cells 201 (I .i64 1 (Q 1389 0 1 1 (Z (I .i64 4 (Z (Q 1405 0 1 3 .nil))))))
def c25 (t:Am.AV):Am.AV:=c24 (F (F (F (I .i64 2 (Z (Q 1407 0 2 3 (I .i64 1 (Q 1423 0 2 1 (Z t)))))))))
def akg:Am.TB:= .cells 203 (c25 .nil)
def akh:Am.TB:= .cells 184 (Q 657 0 20 1 (Q 1504 0 16 9 (T (F .nil))))
def aki:Am.TB:= .cells 201 (I .i64 1 (Q 1453 0 3 1 (Z .nil)))
def ac5:Am.TB:= .cells 3 (I .i64 11 (I .i64 13 (I .i64 15 .nil)))
def akj:Am.TB:= .cells 201 (I .i64 1 (Q 1482 0 3 1 (Z .nil)))
def akk:Am.TB:= .cells 201 (I .i64 1 (Q 1439 0 1 1 (Z (I .i64 4 (Z (Q 1455 0 1 3 (I .i64 1 (Q 1468 0 3 1 (Z (I .i64 4 (Z (Q 1484 0 1 3 .nil))))))))))))
def c26 (t:Am.AV):Am.AV:=c25 (F (F (F (I .i64 2 (Z (Q 1486 0 4 3 (I .i64 1 (Q 1496 0 1 1 (Z t)))))))))
def akl:Am.TB:= .cells 203 (c26 .nil)
def akm:List Am.iR:=[⟨124,(.cons (.ptr 659 0) (S 64 3791687934052966730003736384547491426198723913599159181974903659709313035997522675758717117584969209529071238647562948499662070530199234033854238176732535 .nil)),1223,[(659,b91),(1222,b96),(657,DU)],(J .i64 0),1288,[(659,b97),(1230,b15),(1244,l8),(1246,b98),(1251,b36),(1265,l8),(1267,b99),(1269,aj3),(1279,b15),(1287,aj4)],[659,1222]⟩,⟨124,(.cons (.ptr 659 0) (S 34 2027913633356939315139468587601089442582635746393906730646886540112334545335314804 .nil)),1288,[(659,b97),(1287,aj4),(657,DU)],(J .i64 0),1332,[(659,aj5),(1295,yc),(1309,l8),(1311,aj6),(1313,aj7),(1323,yc),(1331,aj8)],[659,1287]⟩,⟨124,(.cons (.ptr 659 0) (S 44 3271762608962699944174179155836064724725852427056154557092725093592856136234788480465966145357614294722932 .nil)),1332,[(659,aj5),(1331,aj8),(657,DU)],(J .i64 0),1382,[(659,aj9),(1345,Pe),(1359,l8),(1361,akb),(1363,akc),(1373,yc),(1381,b110)],[659,1331]⟩,⟨124,(.cons (.ptr 659 0) (S 44 2451597151313718463733859557872187550270600009800402764711095463641380350298228693494283316741635425269597 .nil)),1382,[(659,aj9),(1381,b110),(657,DU)],(J .i64 0),1432,[(659,akd),(1389,yc),(1403,l8),(1405,ake),(1407,akf),(1423,Pe),(1431,akg)],[659,1381]⟩,⟨124,(.cons (.ptr 659 0) (S 80 1219236229664351882131620932798889958297374707269263773092380121546578289435886614160750077365373337820808458458942511247790208232282929043886568664285096275116088776945584568871439074341644660 .nil)),1432,[(659,akd),(1431,akg),(657,DU)],(J .i64 0),1505,[(659,akh),(1439,yc),(1453,l8),(1455,aki),(1468,ac5),(1482,l8),(1484,akj),(1486,akk),(1496,yc),(1504,akl)],[659,1431]⟩]
set_option maxRecDepth 1000000 in
theorem agw:∀e∈akm,Am.vE Tryz.prog e:=oM qW (by kernel_rfl)
end
end Go.Proofs.YtocaiijbhepnnaaGreatDoor.searchEach
