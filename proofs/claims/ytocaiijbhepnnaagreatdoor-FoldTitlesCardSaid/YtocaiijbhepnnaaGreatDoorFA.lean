/- FoldTitles, the plain law of letters; what the machine's heap says of what a run leaves. -/
import Derived.Test.YtocaiijbhepnnaaGreatDoorAm48
namespace Go.Proofs.YtocaiijbhepnnaaGreatDoor.Am
namespace Cases
abbrev Line:=Int×Int×Int×Int
def lines:List Line:=[(65,90,32,1),(192,214,32,1),(216,222,32,1),(256,302,1,2),(306,310,1,2),(313,327,1,2),(330,374,1,2),(376,376,-121,1),(377,381,1,2),(902,902,38,1),(904,906,37,1),(908,908,64,1),(910,911,63,1),(913,929,32,1),(931,939,32,1),(1024,1039,80,1),(1040,1071,32,1),(1120,1152,1,2),(1329,1366,48,1),(7680,7828,1,2),(8544,8559,16,1),(65313,65338,32,1),(66560,66599,40,1)]
def bf:List Int:=[0xdf,0x130,0x131,0x149,0x17f,0x1c4,0x1c5,0x1c6,0x1f0,0x390,0x3c2,0x587,0x1e9e,0xfb00,0xfb01,0xfb02,0xfb03]
def mV (r:Int) (p:Line):Bool:=decide (p.1<=r)&&decide (r<=p.2.1)&&decide ((r-p.1).tmod p.2.2.2=0)
def isSmall (r:Int) (p:Line):Bool:=decide (p.1+p.2.2.1<=r)&&decide (r<=p.2.1+p.2.2.1)&&decide ((r-p.1-p.2.2.1).tmod p.2.2.2=0)
def step (r:Int) (sg:Int×Int) (p:Line):Int×Int:=(if mV r p then r+p.2.2.1 else sg.1,if isSmall r p then r-p.2.2.1 else sg.2)
def gB (r:Int):Int×Int:=lines.foldl (step r) (r,r)
def ug (r:Int):Bool:=decide ((gB r).1≠r)||decide ((gB r).2≠r)||bf.contains r
def gen (p:Line):List (Int×Int):=(List.range (((p.2.1-p.1).tdiv p.2.2.2).toNat+1)).map λ(i:Nat)=>(p.1+(i:Int)*p.2.2.2,p.1+(i:Int)*p.2.2.2+p.2.2.1)
def smalls:List (Int×Int):=[(65,97),(66,98),(67,99),(68,100),(69,101),(70,102),(71,103),(72,104),(73,105),(74,106),(75,107),(76,108),(77,109),(78,110),(79,111),(80,112),(81,113),(82,114),(83,115),(84,116),(85,117),(86,118),(87,119),(88,120),(89,121),(90,122),(192,224),(193,225),(194,226),(195,227),(196,228),(197,229),(198,230),(199,231),(200,232),(201,233),(202,234),(203,235),(204,236),(205,237),(206,238),(207,239),(208,240),(209,241),(210,242),(211,243),(212,244),(213,245),(214,246),(216,248),(217,249),(218,250),(219,251),(220,252),(221,253),(222,254),(256,257),(258,259),(260,261),(262,263),(264,265),(266,267),(268,269),(270,271),(272,273),(274,275),(276,277),(278,279),(280,281),(282,283),(284,285),(286,287),(288,289),(290,291),(292,293),(294,295),(296,297),(298,299),(300,301),(302,303),(306,307),(308,309),(310,311),(313,314),(315,316),(317,318),(319,320),(321,322),(323,324),(325,326),(327,328),(330,331),(332,333),(334,335),(336,337),(338,339),(340,341),(342,343),(344,345),(346,347),(348,349),(350,351),(352,353),(354,355),(356,357),(358,359),(360,361),(362,363),(364,365),(366,367),(368,369),(370,371),(372,373),(374,375),(376,255),(377,378),(379,380),(381,382),(902,940),(904,941),(905,942),(906,943),(908,972),(910,973),(911,974),(913,945),(914,946),(915,947),(916,948),(917,949),(918,950),(919,951),(920,952),(921,953),(922,954),(923,955),(924,956),(925,957),(926,958),(927,959),(928,960),(929,961),(931,963),(932,964),(933,965),(934,966),(935,967),(936,968),(937,969),(938,970),(939,971),(1024,1104),(1025,1105),(1026,1106),(1027,1107),(1028,1108),(1029,1109),(1030,1110),(1031,1111),(1032,1112),(1033,1113),(1034,1114),(1035,1115),(1036,1116),(1037,1117),(1038,1118),(1039,1119),(1040,1072),(1041,1073),(1042,1074),(1043,1075),(1044,1076),(1045,1077),(1046,1078),(1047,1079),(1048,1080),(1049,1081),(1050,1082),(1051,1083),(1052,1084),(1053,1085),(1054,1086),(1055,1087),(1056,1088),(1057,1089),(1058,1090),(1059,1091),(1060,1092),(1061,1093),(1062,1094),(1063,1095),(1064,1096),(1065,1097),(1066,1098),(1067,1099),(1068,1100),(1069,1101),(1070,1102),(1071,1103),(1120,1121),(1122,1123),(1124,1125),(1126,1127),(1128,1129),(1130,1131),(1132,1133),(1134,1135),(1136,1137),(1138,1139),(1140,1141),(1142,1143),(1144,1145),(1146,1147),(1148,1149),(1150,1151),(1152,1153),(1329,1377),(1330,1378),(1331,1379),(1332,1380),(1333,1381),(1334,1382),(1335,1383),(1336,1384),(1337,1385),(1338,1386),(1339,1387),(1340,1388),(1341,1389),(1342,1390),(1343,1391),(1344,1392),(1345,1393),(1346,1394),(1347,1395),(1348,1396),(1349,1397),(1350,1398),(1351,1399),(1352,1400),(1353,1401),(1354,1402),(1355,1403),(1356,1404),(1357,1405),(1358,1406),(1359,1407),(1360,1408),(1361,1409),(1362,1410),(1363,1411),(1364,1412),(1365,1413),(1366,1414),(7680,7681),(7682,7683),(7684,7685),(7686,7687),(7688,7689),(7690,7691),(7692,7693),(7694,7695),(7696,7697),(7698,7699),(7700,7701),(7702,7703),(7704,7705),(7706,7707),(7708,7709),(7710,7711),(7712,7713),(7714,7715),(7716,7717),(7718,7719),(7720,7721),(7722,7723),(7724,7725),(7726,7727),(7728,7729),(7730,7731),(7732,7733),(7734,7735),(7736,7737),(7738,7739),(7740,7741),(7742,7743),(7744,7745),(7746,7747),(7748,7749),(7750,7751),(7752,7753),(7754,7755),(7756,7757),(7758,7759),(7760,7761),(7762,7763),(7764,7765),(7766,7767),(7768,7769),(7770,7771),(7772,7773),(7774,7775),(7776,7777),(7778,7779),(7780,7781),(7782,7783),(7784,7785),(7786,7787),(7788,7789),(7790,7791),(7792,7793),(7794,7795),(7796,7797),(7798,7799),(7800,7801),(7802,7803),(7804,7805),(7806,7807),(7808,7809),(7810,7811),(7812,7813),(7814,7815),(7816,7817),(7818,7819),(7820,7821),(7822,7823),(7824,7825),(7826,7827),(7828,7829),(8544,8560),(8545,8561),(8546,8562),(8547,8563),(8548,8564),(8549,8565),(8550,8566),(8551,8567),(8552,8568),(8553,8569),(8554,8570),(8555,8571),(8556,8572),(8557,8573),(8558,8574),(8559,8575),(65313,65345),(65314,65346),(65315,65347),(65316,65348),(65317,65349),(65318,65350),(65319,65351),(65320,65352),(65321,65353),(65322,65354),(65323,65355),(65324,65356),(65325,65357),(65326,65358),(65327,65359),(65328,65360),(65329,65361),(65330,65362),(65331,65363),(65332,65364),(65333,65365),(65334,65366),(65335,65367),(65336,65368),(65337,65369),(65338,65370),(66560,66600),(66561,66601),(66562,66602),(66563,66603),(66564,66604),(66565,66605),(66566,66606),(66567,66607),(66568,66608),(66569,66609),(66570,66610),(66571,66611),(66572,66612),(66573,66613),(66574,66614),(66575,66615),(66576,66616),(66577,66617),(66578,66618),(66579,66619),(66580,66620),(66581,66621),(66582,66622),(66583,66623),(66584,66624),(66585,66625),(66586,66626),(66587,66627),(66588,66628),(66589,66629),(66590,66630),(66591,66631),(66592,66632),(66593,66633),(66594,66634),(66595,66635),(66596,66636),(66597,66637),(66598,66638),(66599,66639)]
theorem Ef:smalls=lines.flatMap gen:=by decide+kernel
def fO:List (Int×Int):=smalls.map λx=>(x.2,x.1)
def look (l:List (Int×Int)) (r:Int):Option Int:=(l.find? λx=>decide (x.1=r)).map (·.2)
def pair (r:Int):Int×Int:=
 match look smalls r with
 |some s=>(s,r)
 |none=>match look fO r with
  |some g=>(r,g)
  |none=>(r,r)
def cased (r:Int):Bool:=(look smalls r).isSome||(look fO r).isSome||bf.contains r
def all:List Int:=smalls.map (·.1)++fO.map (·.1)
def okr (r:Int):Bool:=decide (pair r=gB r)&&decide ((pair r).1≠r\/(pair r).2≠r)
theorem fin1:(all.take 330).all okr=true:=by decide+kernel
theorem fin2:((all.drop 330).take 330).all okr=true:=by decide+kernel
theorem fin3:(((all.drop 330).drop 330).take 330).all okr=true:=by decide+kernel
theorem fin4:(((all.drop 330).drop 330).drop 330).all okr=true:=by decide+kernel
theorem finite:(all.all λr=>decide (pair r=gB r)&&decide ((pair r).1≠r\/(pair r).2≠r))=true:=by show all.all okr=true;rw[<-qO 330 all,yI,fin1,<-qO 330 (all.drop 330),yI,fin2,<-qO 330 ((all.drop 330).drop 330),yI,fin3,fin4];rfl
theorem abB:(lines.all λp=>decide (0<p.2.2.2)&&decide (p.1<=p.2.1))=true:=by decide+kernel
theorem Ai {l:List (Int×Int)} {r:Int} (h:r∉l.map (·.1)):look l r=none:=by
 unfold look;rw[List.find?_eq_none.2 (λx hx=>by
  intro c;exact h (bX.2 ⟨x,hx,gK c⟩))]
 rfl
theorem Gc {l:List (Int×Int)} {r:Int} (h:r∈l.map (·.1)):(look l r).isSome=true:=by unfold look;rw[Option.isSome_map,List.find?_isSome];obtain⟨x,hx,he⟩:=bX.1 h;exact⟨x,hx,aO he⟩
theorem Pm {p:Line} {r:Int} (hp:p∈lines) (h:p.1<=r/\r<=p.2.1/\(r-p.1).tmod p.2.2.2=0):(r,r+p.2.2.1)∈gen p:=by
 have hs:=dZ.1 abB p hp;rw[aQ,aY,aY]at hs;obtain⟨f,l,d,s⟩:=p;obtain⟨h1,h2,h3⟩:=h;dsimp only at h1 h2 h3 hs⊢;obtain⟨hs1,hs2⟩:=hs;have hd:(r-f)=s*((r-f).tdiv s):=by have:=Int.mul_tdiv_add_tmod (r-f) s;omega
 have hq:0<=(r-f).tdiv s:=Int.tdiv_nonneg (by omega) (by omega);have hle:(r-f).tdiv s<=(l-f).tdiv s:=by rw[Int.tdiv_eq_ediv_of_nonneg (by omega),Int.tdiv_eq_ediv_of_nonneg (by omega)];exact Int.ediv_le_ediv hs1 (by omega)
 unfold gen;refine bX.2 ⟨((r-f).tdiv s).toNat,nO.2 (by show _<((l-f).tdiv s).toNat+1;omega),?_⟩;dsimp only;have hn:(((r-f).tdiv s).toNat:Int)=(r-f).tdiv s:=vO hq;rw[hn];have:f+(r-f).tdiv s*s=r:=by rw[Int.mul_comm];omega
 rw[this]
theorem QO {p:Line} {r:Int} (hp:p∈lines) (h:mV r p=true):r∈all:=by unfold mV at h;simp only[aQ,aY]at h;exact iF _ (bX.2 ⟨_,by rw[Ef];exact List.mem_flatMap.2 ⟨p,hp,Pm hp ⟨h.1.1,h.1.2,h.2⟩⟩,rfl⟩)
theorem QS {p:Line} {r:Int} (hp:p∈lines) (h:isSmall r p=true):r∈all:=by
 unfold isSmall at h;simp only[aQ,aY]at h;have h0:(r-p.2.2.1,r-p.2.2.1+p.2.2.1)∈gen p:=Pm hp ⟨by omega,by omega,by rw[show r-p.2.2.1-p.1=r-p.1-p.2.2.1 by omega];exact h.2⟩;refine iM _ (bX.2 ⟨(r,r-p.2.2.1),bX.2 ⟨_,by rw[Ef];exact List.mem_flatMap.2 ⟨p,hp,h0⟩,?_⟩,rfl⟩);show(r-p.2.2.1+p.2.2.1,r-p.2.2.1)=(r,r-p.2.2.1)
 rw[show r-p.2.2.1+p.2.2.1=r by omega]
theorem fold_same {r:Int}:∀(l:List Line) (sg:Int×Int),(∀p∈l,mV r p=false/\isSmall r p=false)->l.foldl (step r) sg=sg
 |[],_,_=>rfl
 |p::l,sg,h=>by obtain⟨h1,h2⟩:=h p (by simp);rw[List.foldl_cons,fold_same l _ λq hq=>h q (by simp[hq])];unfold step;rw[h1,h2];rfl
theorem Kz {r:Int} (h:r∉all):gB r=(r,r):=
 fold_same lines _ λp hp=>⟨by cases c:mV r p with|false=>rfl|true=>exact absurd (QO hp c) h,by cases c:isSmall r p with|false=>rfl|true=>exact absurd (QS hp c) h⟩
theorem Gd {r:Int} (h:r∉all):look smalls r=none/\look fO r=none:=
 ⟨Ai λc=>h (iF _ c),Ai λc=>h (iM _ c)⟩
theorem UL (r:Int):pair r=gB r:=by
 by_cases h:r∈all;·have:=dZ.1 finite r h;rw[aQ,aY,aY]at this;exact this.1
 ·obtain⟨h1,h2⟩:=Gd h;rw[Kz h];unfold pair;rw[h1,h2]
theorem QT (r:Int):cased r=ug r:=by
 unfold cased ug;congr 1;by_cases h:r∈all
 ·have hf:=dZ.1 finite r h;rw[aQ,aY,aY]at hf;rw[<-hf.1];have h1:((look smalls r).isSome||(look fO r).isSome)=true:=by
   rcases iE.1 h with c|c;·rw[Gc c];rfl
   ·rw[Gc c,Bool.or_true]
  rw[h1];rcases hf.2 with c|c;·rw[aO c];rfl
  ·rw[aO c,Bool.or_true]
 ·obtain⟨h1,h2⟩:=Gd h;rw[h1,h2,Kz h];simp
end Cases
noncomputable section
open Cases
variable {α:Type}
def Ye (v:Value):Prop:=∃p n c,v= .slice p n c
def Forms (v:Value):Prop:=∃a b c d,v= .agg #[a,b,c,d]/\Ye a/\Ye b/\Ye c/\Ye d
def MapAt (w:World) (B:Nat) (f:Int->Option (Value->Prop)):Prop:=
 ∃es c,w.heap[B]? =some (.map es c)/\(∀x∈es.toList,∃i:Int,x.key= .int .i32 i)/\
  ∀r:Int,∃o,bC es.toList (.int .i32 r) o/\match f r with
   |none=>o=none
   |some q=>∃e,o=some e/\q e.val
def letters (l:List (Int×Int)) (r:Int):Option (Value->Prop):=(Cases.look l r).map λs v=>v= .int .i32 s
def forms (r:Int):Option (Value->Prop):=if bf.contains r then some Forms else none
def UM (x:Nat):List Nat->List Nat
 |[]=>[x]
 |y::r=>bif Nat.ble x y then x::y::r else y::UM x r
def Gf:List Nat->List Nat
 |[]=>[]
 |x::r=>UM x (Gf r)
theorem KA {a x:Nat}:∀{l:List Nat},a∈UM x l->a=x\/a∈l
 |[],h=>by simp[UM]at h;exact .inl h
 |y::r,h=>by
  unfold UM at h;cases c:Nat.ble x y with
  |true=>rw[c]at h;simp only[cond_true]at h;simpa using h
  |false=>
   rw[c]at h;simp only[cond_false,aR]at h;rcases h with h|h;·exact .inr (by simp[h])
   ·rcases KA h with h|h
    ·exact .inl h
    ·exact .inr (by simp[h])
theorem Gg {a:Nat}:∀{l:List Nat},a∈Gf l->a∈l
 |[],h=>by cases h
 |x::r,h=>by
  rcases KA h with h|h;·simp[h]
  ·simp[Gg h]
def QU:List Nat->Bool
 |[]=>true
 |x::r=>aA (match r with|[]=>true|y::_=>Nat.ble (Nat.succ x) y) (QU r)
theorem UN:∀{l:List Nat} {x:Nat},QU (x::l)=true->∀y∈l,x<y
 |[],_,_,y,hy=>by cases hy
 |z::l,x,h,y,hy=>by
  obtain⟨h1,h2⟩:=ak (show aA (Nat.ble (Nat.succ x) z) (QU (z::l))=true from h);rw[aD]at h1;rcases aR.1 hy with rfl|hy;·exact h1
  ·have:=UN h2 y hy;omega
theorem Gh:∀{l:List Nat},QU l=true->l.Nodup
 |[],_=>List.nodup_nil
 |x::l,h=>List.nodup_cons.2 ⟨λc=>dA _ (UN h x c),Gh (by cases l with
  |nil=>rfl
  |cons y l=>exact(ak (show aA (Nat.ble (Nat.succ x) y) (QU (y::l))=true from h)).2)⟩
theorem full {β:Type}:∀{l m:List β},l.Nodup->(∀x∈l,x∈m)->m.length<=l.length->∀x∈m,x∈l
 |[],m,_,_,h,x,hx=>by have:m=[]:=tN (by simpa using h);rw[this]at hx;cases hx
 |a::l,m,hn,hs,h,x,hx=>by
  obtain⟨m1,m2,rfl⟩:=List.append_of_mem (hs a (by simp));obtain⟨ha,hn'⟩:=List.nodup_cons.1 hn;have hs':∀y∈l,y∈m1++m2:=λy hy=>by
   have:=hs y (by simp[hy]);simp only[iE,aR]at this⊢;rcases this with c|c|c;·exact .inl c
   ·exact absurd (c▸hy) ha
   ·exact .inr c
  have hl:(m1++m2).length<=l.length:=by simp at h⊢;omega
  by_cases c:x=a;·simp[c]
  ·have:x∈m1++m2:=by
    simp only[iE,aR]at hx⊢;rcases hx with d|d|d;·exact .inl d
    ·exact absurd d c
    ·exact .inr d
   exact rH _ (full hn' hs' hl x this)
theorem first_mem:∀{l:List MapEntry} {k:Value} {e:MapEntry},bC l k (some e)->e∈l/\e.key=k
 |[],_,_,h=>by cases h
 |x::l,k,e,h=>by
  rcases h with⟨h1,h2⟩|⟨_,h2⟩
  ·cases h2;exact⟨by simp,h1⟩
  ·obtain⟨i1,i2⟩:=first_mem h2;exact⟨by simp[i1],i2⟩
def UO (q:AV->α->Bool) (t:E (Option AV) 11):List (Nat×α)->Bool
 |[]=>true
 |(i,a)::r=>aA (Nat.ble i FR) (aA (match E.get 11 (path 11 i) t with|some x=>q x a|none=>false) (UO q t r))
theorem KD {q:AV->α->Bool} {t:E (Option AV) 11}:∀{l:List (Nat×α)},UO q t l=true->∀p∈l,p.1<=FR/\∃x,E.get 11 (path 11 p.1) t=some x/\q x p.2=true
 |[],_,p,hp=>by cases hp
 |(i,a)::r,h,p,hp=>by
  obtain⟨h1,h⟩:=ak h;obtain⟨h2,h3⟩:=ak h;rcases aR.1 hp with rfl|hp
  ·refine⟨dh h1,?_⟩;split at h2
   ·rename_i x hx;exact⟨x,hx,h2⟩
   ·cases h2
  ·exact KD h3 p hp
def KE (x:AV) (n:Nat):Bool:=match x with
 | .int .i32 (.ofNat m)=>Nat.beq m n
 |_=>false
theorem UQ {x:AV} {n:Nat} (h:KE x n=true):x= .int .i32 (n:Int):=by
 unfold KE at h;split at h;·rw[aI h];rfl
 ·cases h
def xI (q:AV->α->Bool) (l:List (Nat×α)) (h:H) (x:AV):Bool:=match x with
 | .map b=>match h.get b with
   |some (.zU .i32 n _ t _)=>aA (Nat.beq n (Gf (l.map Prod.fst)).length) (aA (QU (Gf (l.map Prod.fst))) (UO q t l))
   |_=>false
 |_=>false
theorem Gi {q:AV->α->Bool} {l:List (Nat×α)} {h:H} {x:AV} (e:xI q l h x=true) {ι:aV} {w:World} {v:Value} (k:WR ι h w) (hv:VR ι x v) {f:Int->Option (Value->Prop)}
 (hf:∀r:Int,f r=none\/∃i a,(i,a)∈l/\r=(i:Int)) (hq:∀p∈l,∃g,f (p.1:Int)=some g/\∀x v,q x p.2=true->VR ι x v->g v):∃B,v= .map (some B)/\MapAt w B f:=by
 unfold xI at e;split at e
 ·rename_i b;split at e
  ·rename_i n c t lk hb;obtain⟨e0,e⟩:=ak e;obtain⟨e1,e2⟩:=ak e;have e0:=aI e0;obtain⟨m,hm,rfl⟩:=hv;obtain⟨o,ho,es,rfl,hn,hs,⟨hk,_⟩,hg⟩:=k.map trivial hm hb;have here:∀p∈l,∃x e,E.get 11 (path 11 p.1) t=some x/\q x p.2=true/\bC es.toList (.int .i32 (p.1:Int)) (some e)/\VR ι x e.val:=λp hp=>by obtain⟨h1,x,hx,hqx⟩:=KD e2 p hp;have:=hg p.1 h1;rw[hx]at this;obtain⟨e,he,hv⟩:=this;exact⟨x,e,hx,hqx,he,hv⟩
   have inl:∀i∈Gf (l.map Prod.fst),∃a,(i,a)∈l:=λi hi=>by obtain⟨p,hp,rfl⟩:=bX.1 (Gg hi);exact⟨p.2,hp⟩
   have QV:∀x∈es.toList,∃i a,(i,a)∈l/\x.key= .int .i32 (i:Int):=by
    have hfull:=full (l:=(Gf (l.map Prod.fst)).map λi=>Value.int .i32 ((i:Nat):Int)) (m:=es.toList.map (·.key)) ?_ ?_ ?_;·intro x hx;have:=hfull x.key (bX.2 ⟨x,hx,rfl⟩);obtain⟨i,hi,he⟩:=bX.1 this;obtain⟨a,ha⟩:=inl i hi;exact⟨i,a,ha,he.symm⟩
    ·refine List.Pairwise.map _ (λa b (hab:a≠b) c=>hab ?_) (Gh e1);injection c with _ c;exact Int.ofNat.inj c
    ·intro y hy;obtain⟨i,hi,rfl⟩:=bX.1 hy;obtain⟨a,ha⟩:=inl i hi;obtain⟨_,e,_,_,he,_⟩:=here _ ha;obtain⟨g1,g2⟩:=first_mem he;exact bX.2 ⟨e,g1,g2⟩
    ·rw[bM,bM,jE,hn,e0];exact ay _
   refine⟨m.B,rfl,es,c,ho,λx hx=>(hk x hx).elim λi hi=>⟨(i:Int),hi.2⟩,λr=> ?_⟩;rcases hf r with hr|⟨i,a,hia,rfl⟩
   ·refine⟨none,first_none λx hx hxr=> ?_,by rw[hr]⟩;obtain⟨i,a,hia,he⟩:=QV x hx;rw[he]at hxr;injection hxr with _ hxr;obtain⟨g,hg',_⟩:=hq _ hia;dsimp only at hg';rw[hxr,hr]at hg';cases hg'
   ·obtain⟨x,e,_,hqx,he,hv⟩:=here _ hia;obtain⟨g,hg',hgv⟩:=hq _ hia;refine⟨some e,he,?_⟩;dsimp only at hg';rw[hg'];exact⟨e,rfl,hgv _ _ hqx hv⟩
  ·cases e
 ·cases e
def abC (l:List (Int×Int)):List (Nat×Nat):=l.map λp=>(p.1.toNat,p.2.toNat)
def okL (l:List (Int×Int)):Bool:=l.all λp=>decide (0<=p.1)&&decide (0<=p.2)&&decide (Cases.look l p.1=some p.2)
theorem M0:okL smalls=true:=by decide+kernel
theorem M4:okL fO=true:=by decide+kernel
theorem rV {l:List (Int×Int)} (hl:okL l=true) {h:H} {x:AV} (e:xI KE (abC l) h x=true) {ι:aV} {w:World} {v:Value} (k:WR ι h w) (hv:VR ι x v):∃B,v= .map (some B)/\MapAt w B (letters l):=by
 have hall:∀p∈l,0<=p.1/\0<=p.2/\Cases.look l p.1=some p.2:=λp hp=>by have:=dZ.1 hl p hp;simp only[aQ,aY]at this;exact⟨this.1.1,this.1.2,this.2⟩
 refine Gi e k hv (λr=> ?_) (λp hp=> ?_)
 ·by_cases c:r∈l.map (·.1)
  ·obtain⟨p,hp,rfl⟩:=bX.1 c;exact .inr ⟨p.1.toNat,p.2.toNat,bX.2 ⟨p,hp,rfl⟩,(vO (hall p hp).1).symm⟩
  ·left;unfold letters;rw[Cases.Ai c];rfl
 ·obtain⟨z,hz,rfl⟩:=bX.1 hp;obtain⟨h1,h2,h3⟩:=hall z hz;dsimp only;refine⟨λv=>v= .int .i32 z.2,?_,λx v hx hv=> ?_⟩
  ·unfold letters;rw[vO h1,h3];rfl
  ·have:=UQ hx;subst this;rw[vO h2]at hv;exact hv
def OpenAt (w:World) (v:Value):Prop:=∃B o S G X,v= .pointer (some ⟨B,o,none⟩)/\w.cell? ⟨B,o,none⟩=some (.map (some S))/\w.cell? ⟨B,o+1,none⟩=some (.map (some G))/\w.cell? ⟨B,o+2,none⟩=some (.map (some X))/\
 MapAt w S (letters smalls)/\MapAt w G (letters fO)/\MapAt w X forms
def qA:List Int:=lines.flatMap λp=>[p.1,p.2.1,p.2.2.1,p.2.2.2]
def Eh (d:Nat) (t:E AV d) (st:Nat):Nat->List Int->Bool
 |_,[]=>true
 |i,n::r=>aA (match E.get d (path d i) t with| .int .i32 m=>decide (m=n)|_=>false) (Eh d t st (Nat.add i st) r)
theorem vP {d:Nat} {t:E AV d} {st:Nat}:∀{l:List Int} {i:Nat},Eh d t st i l=true->∀j,j<l.length->E.get d (path d (i+j*st)) t= .int .i32 (l.getD j 0)
 |[],_,_,j,hj=>by simp at hj
 |n::r,i,h,j,hj=>by
  obtain⟨h1,h2⟩:=ak h;cases j with
  |zero=>
   split at h1;·rename_i m hm;rw[jU,dG,hm,gK h1];rfl
   ·cases h1
  |succ j=>have:=vP h2 j (by simpa using hj);rw[show i+(j+1)*st=Nat.add i st+j*st by rw[fD,Nat.one_mul];show _=i+st+_;omega];simpa using this
def UR (d:Nat) (t:E AV d):Nat->Nat->Bool
 |_,0=>true
 |i,n+1=>aA (match E.get d (path d i) t with| .slice ..=>true|_=>false) (UR d t (Nat.add i (nat_lit 2)) n)
theorem KF {d:Nat} {t:E AV d}:∀{n i:Nat},UR d t i n=true->∀j,j<n->∃b o l es z,E.get d (path d (i+2*j)) t= .slice b o l es z
 |0,_,_,j,hj=>by omega
 |n+1,i,h,j,hj=>by
  obtain⟨h1,h2⟩:=ak h;cases j with
  |zero=>
   split at h1;·rename_i b o l es z hm;exact⟨b,o,l,es,z,hm⟩
   ·cases h1
  |succ j=>have:=KF h2 j (by omega);rw[show i+2*(j+1)=Nat.add i (nat_lit 2)+2*j by show _=i+2+_;omega];exact this
def xJ (w:World) (v:Value):Prop:=∃B o BP oP cP BS oS cS,v= .pointer (some ⟨B,o,none⟩)/\w.cell? ⟨B,o,none⟩=some (.slice (some ⟨BP,oP,none⟩) 23 cP)/\w.cell? ⟨B,o+1,none⟩=some (.slice (some ⟨BS,oS,none⟩) 17 cS)/\23<=cP/\17<=cS/\
 (∀i,i<92->w.cell? ⟨BP,oP+i,none⟩=some (.int .i32 (qA.getD i 0)))/\
 ∀j,j<17->w.cell? ⟨BS,oS+2*j,none⟩=some (.int .i32 (bf.getD j 0))/\∃p n c,w.cell? ⟨BS,oS+2*j+1,none⟩=some (.slice (some p) n c)
def M5 (v:AV) (h:H):Bool:=match v with
 | .ptr b off=>match h.get b with
   |some (.cells _ _ n d t)=>aA (Nat.ble (Nat.add off (nat_lit 2)) n) (match E.get d (path d off) t,E.get d (path d (Nat.add off (nat_lit 1))) t with
    | .slice bP oP lP eP _, .slice bS oS lS eS _=>match h.get bP,h.get bS with
      |some (.cells _ _ nP dP tP),some (.cells _ _ nS dS tS)=>
       aA (aA (Nat.beq lP (nat_lit 23)) (aA (Nat.beq eP (nat_lit 4)) (aA (Nat.beq lS (nat_lit 17)) (Nat.beq eS (nat_lit 2)))))
        (aA (aA (Nat.ble (Nat.add oP (nat_lit 92)) nP) (Nat.ble (Nat.add oS (nat_lit 34)) nS)) (aA (Eh dP tP (nat_lit 1) oP qA) (aA (Eh dS tS (nat_lit 2) oS bf) (UR dS tS (Nat.add oS (nat_lit 1)) (nat_lit 17)))))
      |_,_=>false
    |_,_=>false)
   |_=>false
 |_=>false
theorem Yf {ι:aV} {h:H} {w:World} {x:AV} {v:Value} (e:M5 x h=true) (k:WR ι h w) (hv:VR ι x v):xJ w v:=by
 unfold M5 at e;split at e
 ·rename_i b off;split at e
  ·rename_i el ro n d t hb;obtain⟨e0,e⟩:=ak e;obtain⟨B,o,rfl,hc⟩:=iB (c:=2) k hv hb (dh e0);obtain⟨v1,c1,r1⟩:=hc 0 (by omega);obtain⟨v2,c2,r2⟩:=hc 1 (by omega);split at e
   ·rename_i bP oP lP eP zP bS oS lS eS zS hP hS;split at e
    ·rename_i el1 ro1 nP dP tP el2 ro2 nS dS tS hbP hbS;obtain⟨f1,f2⟩:=ak e;obtain⟨a1,f3⟩:=ak f1;obtain⟨a2,f4⟩:=ak f3;obtain⟨a3,a4⟩:=ak f4;obtain⟨f5,f6⟩:=ak f2;obtain⟨b1,b2⟩:=ak f5;obtain⟨e3,f7⟩:=ak f6;obtain⟨e4,e5⟩:=ak f7;have b1:=dh b1;have b2:=dh b2;have a1:=aI a1;have a2:=aI a2;have a3:=aI a3;have a4:=aI a4;subst a1 a2 a3 a4;have r1:VR ι (E.get d (path d off) t) v1:=r1;have r2:VR ι (E.get d (path d (Nat.add off (nat_lit 1))) t) v2:=r2;rw[hP]at r1;rw[hS]at r2;obtain⟨BP,o1,cP,rfl,l1,p1⟩:=eO k r1 (by show 0<23;omega) hbP (by show oP+23*4<=nP;exact b1);obtain⟨BS,o2,cS,rfl,l2,p2⟩:=eO k r2 (by show 0<17;omega) hbS (by show oS+17*2<=nS;exact b2);refine⟨B,o,BP,o1,cP,BS,o2,cS,rfl,c1,c2,l1,l2,λi hi=> ?_,λj hj=>⟨?_,?_⟩⟩
     ·obtain⟨y,hy,ry⟩:=p1 i (by show i<23*4;omega);rw[show oP+i=oP+i*1 by omega,vP e3 i (by show i<92;exact hi)]at ry;have ry:y=_:=ry;rw[hy,ry]
     ·obtain⟨y,hy,ry⟩:=p2 (2*j) (by show 2*j<17*2;omega);rw[show oS+2*j=oS+j*2 by omega,vP e4 j (by show j<17;exact hj)]at ry;have ry:y=_:=ry;rw[hy,ry]
     ·obtain⟨y,hy,ry⟩:=p2 (2*j+1) (by show 2*j+1<17*2;omega);obtain⟨b,o,l,es,z,hs⟩:=KF e5 j hj;rw[show oS+(2*j+1)=Nat.add oS (nat_lit 1)+2*j by show _=oS+1+_;omega,hs]at ry;obtain⟨m,y',cap,_,rfl,_⟩:=ry;exact⟨y',l,cap,hy⟩
    ·cases e
   ·cases e
  ·cases e
 ·cases e
end
noncomputable section
open Cases
def formsT:List (Int×List (List Int)):=[(0xdf,[[0xdf],[0x53,0x53],[0x53,0x73],[0x73,0x73]]),(0x130,[[0x69,0x307],[0x130],[0x130],[0x69,0x307]]),(0x131,[[0x131],[0x49],[0x49],[0x131]]),(0x149,[[0x149],[0x2bc,0x4e],[0x2bc,0x4e],[0x2bc,0x6e]]),
 (0x17f,[[0x17f],[0x53],[0x53],[0x73]]),(0x1c4,[[0x1c6],[0x1c4],[0x1c5],[0x1c6]]),(0x1c5,[[0x1c6],[0x1c4],[0x1c5],[0x1c6]]),(0x1c6,[[0x1c6],[0x1c4],[0x1c5],[0x1c6]]),(0x1f0,[[0x1f0],[0x4a,0x30c],[0x4a,0x30c],[0x6a,0x30c]]),
 (0x390,[[0x390],[0x399,0x308,0x301],[0x399,0x308,0x301],[0x3b9,0x308,0x301]]),(0x3c2,[[0x3c2],[0x3a3],[0x3a3],[0x3c3]]),(0x587,[[0x587],[0x535,0x552],[0x535,0x582],[0x565,0x582]]),(0x1e9e,[[0xdf],[0x1e9e],[0x1e9e],[0x73,0x73]]),
 (0xfb00,[[0xfb00],[0x46,0x46],[0x46,0x66],[0x66,0x66]]),(0xfb01,[[0xfb01],[0x46,0x49],[0x46,0x69],[0x66,0x69]]),(0xfb02,[[0xfb02],[0x46,0x4c],[0x46,0x6c],[0x66,0x6c]]),(0xfb03,[[0xfb03],[0x46,0x46,0x49],[0x46,0x66,0x69],[0x66,0x66,0x69]])]
def formsOf (r:Int):Option (List (List Int)):=(formsT.find? λx=>decide (x.1=r)).map (·.2)
def fA (w:World) (v:Value) (l:List Int):Prop:=
 ∃A c,v= .slice A l.length c/\l.length<=c/\(0<l.length->∃g o,A=some ⟨g,o,none⟩/\∀j,j<l.length->w.cell? ⟨g,o+j,none⟩=some (.int .i32 (l.getD j 0)))
def vQ (w:World) (fs:List (List Int)) (v:Value):Prop:=
 ∃a b c d,v= .agg #[a,b,c,d]/\fA w a (fs.getD 0 [])/\fA w b (fs.getD 1 [])/\fA w c (fs.getD 2 [])/\fA w d (fs.getD 3 [])
def formsP (w:World) (r:Int):Option (Value->Prop):=(formsOf r).map (vQ w)
def wP (h:H) (x:AV) (l:List Int):Bool:=match x with
 | .slice b off len es _=>match h.get b with
   |some (.cells _ _ n d t)=>aA (aA (Nat.beq len l.length) (Nat.beq es (nat_lit 1))) (aA (aA (Nat.ble (nat_lit 1) len) (Nat.ble (Nat.add off len) n)) (Eh d t (nat_lit 1) off l))
   |_=>false
 |_=>false
theorem lQ {h:H} {x:AV} {l:List Int} (e:wP h x l=true) {ι:aV} {w:World} {v:Value} (k:WR ι h w) (hv:VR ι x v):fA w v l:=by
 unfold wP at e;split at e
 ·rename_i b off len es z;split at e
  ·rename_i el ro n d t hb;obtain⟨e1,e2⟩:=ak e;obtain⟨a1,a2⟩:=ak e1;obtain⟨e3,e4⟩:=ak e2;obtain⟨b1,b2⟩:=ak e3;have a1:=aI a1;have a2:=aI a2;have b1:=dh b1;have b2:=dh b2;subst a2;obtain⟨B,o,cap,rfl,hc,hcell⟩:=eO k hv (by exact b1) hb (by show off+len*1<=n;have:off+len<=n:=b2;omega);refine⟨some ⟨B,o,none⟩,cap,by rw[a1],by rw[<-a1];exact hc,λ_=>⟨B,o,rfl,λj hj=> ?_⟩⟩;obtain⟨y,hy,ry⟩:=hcell j (by show j<len*1;omega);have:=vP e4 j hj;rw[show off+j=off+j*nat_lit 1 from by show off+j=off+j*1;omega,this]at ry;have ry:y=_:=ry;rw[hy,ry]
  ·cases e
 ·cases e
def yY (h:H) (x:AV) (fs:List (List Int)):Bool:=match x with
 | .agg (.cons a (.cons b (.cons c (.cons d .nil))))=>aA (wP h a (fs.getD 0 [])) (aA (wP h b (fs.getD 1 [])) (aA (wP h c (fs.getD 2 [])) (wP h d (fs.getD 3 []))))
 |_=>false
theorem KG {h:H} {x:AV} {fs:List (List Int)} (e:yY h x fs=true) {ι:aV} {w:World} {v:Value} (k:WR ι h w) (hv:VR ι x v):vQ w fs v:=by
 unfold yY at e;split at e;·rename_i a b c d;obtain⟨ha,e⟩:=ak e;obtain⟨hb,e⟩:=ak e;obtain⟨hc,hd⟩:=ak e;obtain⟨⟨xs⟩,rfl,x1,l1,h1,v1,x2,l2,rfl,v2,x3,l3,rfl,v3,x4,l4,rfl,v4,h5⟩:=hv;have h5:l4=[]:=h5;subst h5;have h1:xs=_:=h1;subst h1;exact⟨x1,x2,x3,x4,rfl,lQ ha k v1,lQ hb k v2,lQ hc k v3,lQ hd k v4⟩
 ·cases e
def formsN:List (Nat×List (List Int)):=formsT.map λp=>(p.1.toNat,p.2)
theorem formsT_ok:(formsT.all λp=>decide (0<=p.1)&&decide (formsOf p.1=some p.2))=true:=by decide+kernel
theorem formsOf_none {r:Int} (h:r∉formsT.map (·.1)):formsOf r=none:=by
 unfold formsOf;rw[List.find?_eq_none.2 (λx hx=>by
  intro c;exact h (bX.2 ⟨x,hx,gK c⟩))]
 rfl
theorem formsP_ok {h:H} {x:AV} (e:xI (yY h) formsN h x=true) {ι:aV} {w:World} {v:Value} (k:WR ι h w) (hv:VR ι x v):∃B,v= .map (some B)/\MapAt w B (formsP w):=by
 have hall:∀p∈formsT,0<=p.1/\formsOf p.1=some p.2:=λp hp=>by have:=dZ.1 formsT_ok p hp;simp only[aQ,aY]at this;exact this
 refine Gi e k hv (λr=> ?_) (λp hp=> ?_)
 ·by_cases c:r∈formsT.map (·.1)
  ·obtain⟨p,hp,rfl⟩:=bX.1 c;exact .inr ⟨p.1.toNat,p.2,bX.2 ⟨p,hp,rfl⟩,(vO (hall p hp).1).symm⟩
  ·left;unfold formsP;rw[formsOf_none c];rfl
 ·obtain⟨z,hz,rfl⟩:=bX.1 hp;obtain⟨h1,h2⟩:=hall z hz;refine⟨vQ w z.2,?_,λx v hx hv=>KG hx k hv⟩;unfold formsP;dsimp only;rw[vO h1,h2];rfl
def uh (w:World) (v:Value):Prop:=∃B o S G X,v= .pointer (some ⟨B,o,none⟩)/\w.cell? ⟨B,o,none⟩=some (.map (some S))/\w.cell? ⟨B,o+1,none⟩=some (.map (some G))/\w.cell? ⟨B,o+2,none⟩=some (.map (some X))/\
 MapAt w S (letters smalls)/\MapAt w G (letters fO)/\MapAt w X (formsP w)
def Ei (v:AV) (h:H):Bool:=match v with
 | .ptr b off=>match h.get b with
   |some (.cells _ _ n d t)=>aA (Nat.ble (Nat.add off (nat_lit 3)) n) (aA (xI KE (abC smalls) h (E.get d (path d off) t))
    (aA (xI KE (abC fO) h (E.get d (path d (Nat.add off (nat_lit 1))) t)) (xI (yY h) formsN h (E.get d (path d (Nat.add off (nat_lit 2))) t))))
   |_=>false
 |_=>false
theorem UU {ι:aV} {h:H} {w:World} {x:AV} {v:Value} (e:Ei x h=true) (k:WR ι h w) (hv:VR ι x v):uh w v:=by
 unfold Ei at e;split at e
 ·rename_i b off;split at e
  ·rename_i el ro n d t hb;obtain⟨e0,e⟩:=ak e;obtain⟨e1,e⟩:=ak e;obtain⟨e2,e3⟩:=ak e;obtain⟨B,o,rfl,hc⟩:=iB (c:=3) k hv hb (dh e0);obtain⟨v1,c1,r1⟩:=hc 0 (by omega);obtain⟨v2,c2,r2⟩:=hc 1 (by omega);obtain⟨v3,c3,r3⟩:=hc 2 (by omega);obtain⟨S,rfl,m1⟩:=rV M0 e1 k r1;obtain⟨G,rfl,m2⟩:=rV M4 e2 k r2;obtain⟨X,rfl,m3⟩:=formsP_ok e3 k r3;exact⟨B,o,S,G,X,rfl,c1,c2,c3,m1,m2,m3⟩
  ·cases e
 ·cases e
theorem gD {w:World} {b o:Nat} {v:Value} (h:w.cell? ⟨b,o,none⟩=some v):b<w.heap.size:=by
 rcases aF b w.heap.size with c|c;·exact c
 ·exfalso;have:w.heap[b]? =none:=Cu c;unfold World.cell? at h;simp[this]at h
theorem bD {w w':World} {v:Value} {l:List Int} (h:fA w v l) (hb:RowKit.Below w.heap.size w w'):fA w' v l:=by obtain⟨A,c,rfl,hl,hc⟩:=h;refine⟨A,c,rfl,hl,λh0=> ?_⟩;obtain⟨g,o,rfl,hg⟩:=hc h0;exact⟨g,o,rfl,λj hj=>by rw[hb.cell (gD (hg j hj))];exact hg j hj⟩
theorem formsIs_below {w w':World} {v:Value} {fs:List (List Int)} (h:vQ w fs v) (hb:RowKit.Below w.heap.size w w'):vQ w' fs v:=by obtain⟨a,b,c,d,rfl,h1,h2,h3,h4⟩:=h;exact⟨a,b,c,d,rfl,bD h1 hb,bD h2 hb,bD h3 hb,bD h4 hb⟩
theorem oU {w w':World} {B:Nat} {f f':Int->Option (Value->Prop)} (h:MapAt w B f) (hb:RowKit.Below w.heap.size w w') (hf:∀r,(f r=none/\f' r=none)\/∃q q',f r=some q/\f' r=some q'/\∀v,q v->q' v):MapAt w' B f':=by
 obtain⟨es,c,hw,hk,hm⟩:=h;refine⟨es,c,by rw[hb.block B (dM.1 hw).1];exact hw,hk,λr=> ?_⟩;obtain⟨o,ho,hfe⟩:=hm r;refine⟨o,ho,?_⟩;rcases hf r with⟨h1,h2⟩|⟨q,q',h1,h2,h3⟩
 ·rw[h1]at hfe;rw[h2];exact hfe
 ·rw[h1]at hfe;rw[h2];obtain⟨e,he,hq⟩:=hfe;exact⟨e,he,h3 _ hq⟩
theorem iO {w w':World} {v:Value} (h:uh w v) (hb:RowKit.Below w.heap.size w w'):uh w' v:=by
 obtain⟨B,o,S,G,X,rfl,c1,c2,c3,m1,m2,m3⟩:=h;have same:∀f:Int->Option (Value->Prop),∀r,(f r=none/\f r=none)\/∃q q',f r=some q/\f r=some q'/\∀v,q v->q' v:=λf r=>by
  cases h:f r with
  |none=>exact .inl ⟨rfl,rfl⟩
  |some q=>exact .inr ⟨q,q,rfl,rfl,λ_ h=>h⟩
 refine⟨B,o,S,G,X,rfl,by rw[hb.cell (gD c1)];exact c1,by rw[hb.cell (gD c1)];exact c2,by rw[hb.cell (gD c1)];exact c3,oU m1 hb (same _),oU m2 hb (same _),oU m3 hb λr=> ?_⟩;unfold formsP;cases h:formsOf r with
 |none=>exact .inl ⟨rfl,rfl⟩
 |some fs=>exact .inr ⟨_,_,rfl,rfl,λv hv=>formsIs_below hv hb⟩
def formV (r:Int) (kind:Nat):List Int:=match formsOf r with
 |some fs=>fs.getD kind []
 |none=>if kind=0\/kind=3 then[(Cases.pair r).1]else[(Cases.pair r).2]
end
noncomputable section
open Cases
def Ej (w:World) (v:Value) (fs:List (List Int)):Prop:=
 ∃g o c,v= .slice (some ⟨g,o,none⟩) 4 c/\4<=c/\∀k,k<4->∃s,w.cell? ⟨g,o+k,none⟩=some s/\fA w s (fs.getD k [])
def Cw (h:H) (x:AV) (fs:List (List Int)):Bool:=match x with
 | .slice b off len es _=>match h.get b with
   |some (.cells _ _ n d t)=>aA (aA (Nat.beq len (nat_lit 4)) (Nat.beq es (nat_lit 1))) (aA (Nat.ble (Nat.add off (nat_lit 4)) n) (aA (aA (wP h (E.get d (path d off) t) (fs.getD 0 [])) (wP h (E.get d (path d (Nat.add off (nat_lit 1))) t) (fs.getD 1 []))) (aA (wP h (E.get d (path d (Nat.add off (nat_lit 2))) t) (fs.getD 2 [])) (wP h (E.get d (path d (Nat.add off (nat_lit 3))) t) (fs.getD 3 [])))))
   |_=>false
 |_=>false
theorem M6 {h:H} {x:AV} {fs:List (List Int)} (e:Cw h x fs=true) {ι:aV} {w:World} {v:Value} (k:WR ι h w) (hv:VR ι x v):Ej w v fs:=by
 unfold Cw at e;split at e
 ·rename_i b off len es z;split at e
  ·rename_i el ro n d t hb;obtain⟨e1,e2⟩:=ak e;obtain⟨a1,a2⟩:=ak e1;obtain⟨b1,e3⟩:=ak e2;obtain⟨e4,e5⟩:=ak e3;obtain⟨f0,f1⟩:=ak e4;obtain⟨f2,f3⟩:=ak e5;have a1:=aI a1;have a2:=aI a2;have b1:=dh b1;subst a1 a2;obtain⟨B,o,cap,rfl,hc,hcell⟩:=eO k hv (by show 0<4;omega) hb (by show off+4*1<=n;exact b1);refine⟨B,o,cap,rfl,hc,λj hj=> ?_⟩;obtain⟨y,hy,ry⟩:=hcell j (by show j<4*1;omega);match j,hj with
   |0,_=>exact⟨y,hy,lQ f0 k ry⟩
   |1,_=>exact⟨y,hy,lQ f1 k ry⟩
   |2,_=>exact⟨y,hy,lQ f2 k ry⟩
   |3,_=>exact⟨y,hy,lQ f3 k ry⟩
  ·cases e
 ·cases e
def frmsAt (h:H) (d:Nat) (t:E AV d):Nat->List (List (List Int))->Bool
 |_,[]=>true
 |i,fs::r=>aA (Cw h (E.get d (path d i) t) fs) (frmsAt h d t (Nat.add i (nat_lit 2)) r)
theorem frmsAt_ok {h:H} {d:Nat} {t:E AV d}:∀{l:List (List (List Int))} {i:Nat},frmsAt h d t i l=true->∀j,j<l.length->Cw h (E.get d (path d (i+2*j)) t) (l.getD j [])=true
 |[],_,_,j,hj=>by simp at hj
 |fs::r,i,e,j,hj=>by
  obtain⟨h1,h2⟩:=ak e;cases j with
  |zero=>exact h1
  |succ j=>have:=frmsAt_ok h2 j (by simpa using hj);rw[show i+2*(j+1)=Nat.add i (nat_lit 2)+2*j by show _=i+2+2*j;omega];simpa using this
def Gj (w:World) (v:Value):Prop:=xJ w v/\∃B o BS oS cS,v= .pointer (some ⟨B,o,none⟩)/\w.cell? ⟨B,o+1,none⟩=some (.slice (some ⟨BS,oS,none⟩) 17 cS)/\
 ∀j,j<17->∃u,w.cell? ⟨BS,oS+(2*j+1),none⟩=some u/\Ej w u ((formsT.map (·.2)).getD j [])
def KH (v:AV) (h:H):Bool:=match v with
 | .ptr b off=>match h.get b with
   |some (.cells _ _ n d t)=>aA (Nat.ble (Nat.add off (nat_lit 2)) n) (match E.get d (path d (Nat.add off (nat_lit 1))) t with
    | .slice bS oS lS eS _=>match h.get bS with
      |some (.cells _ _ nS dS tS)=>aA (aA (Nat.beq lS (nat_lit 17)) (Nat.beq eS (nat_lit 2))) (aA (Nat.ble (Nat.add oS (nat_lit 34)) nS) (frmsAt h dS tS (Nat.add oS (nat_lit 1)) (formsT.map (·.2))))
      |_=>false
    |_=>false)
   |_=>false
 |_=>false
def IX (v:AV) (h:H):Bool:=aA (M5 v h) (KH v h)
theorem UW {ι:aV} {h:H} {w:World} {x:AV} {v:Value} (e:IX x h=true) (k:WR ι h w) (hv:VR ι x v):Gj w v:=by
 unfold IX at e;have e1:=(ak e).1;have e2:=(ak e).2;clear e;refine⟨Yf e1 k hv,?_⟩;clear e1;have e:=e2;clear e2;unfold KH at e;split at e
 ·rename_i b off;split at e
  ·rename_i el ro n d t hb;obtain⟨e0,e⟩:=ak e;obtain⟨B,o,rfl,hc⟩:=iB (c:=2) k hv hb (dh e0);obtain⟨v2,c2,r2⟩:=hc 1 (by omega);split at e
   ·rename_i bS oS lS eS zS hS;split at e
    ·rename_i el2 ro2 nS dS tS hbS;obtain⟨f1,f2⟩:=ak e;obtain⟨a3,a4⟩:=ak f1;obtain⟨b2,e5⟩:=ak f2;have b2:=dh b2;have a3:=aI a3;have a4:=aI a4;subst a3 a4;have r2:VR ι (E.get d (path d (Nat.add off (nat_lit 1))) t) v2:=r2;rw[hS]at r2;obtain⟨BS,o2,cS,rfl,l2,p2⟩:=eO k r2 (by show 0<17;omega) hbS (by show oS+17*2<=nS;exact b2);refine⟨B,o,BS,o2,cS,rfl,c2,λj hj=> ?_⟩;obtain⟨y,hy,ry⟩:=p2 (2*j+1) (by show 2*j+1<17*2;omega);have:=frmsAt_ok e5 j (by rw[bM];exact hj);rw[show oS+(2*j+1)=Nat.add oS (nat_lit 1)+2*j by show _=oS+1+_;omega]at ry;exact⟨y,hy,M6 this k ry⟩
    ·cases e
   ·cases e
  ·cases e
 ·cases e
theorem fourIs_below {w w':World} {v:Value} {fs:List (List Int)} (h:Ej w v fs) (hb:RowKit.Below w.heap.size w w'):Ej w' v fs:=by obtain⟨g,o,c,rfl,hc,hk⟩:=h;refine⟨g,o,c,rfl,hc,λk hk4=> ?_⟩;obtain⟨s,h1,h2⟩:=hk k hk4;exact⟨s,by rw[hb.cell (gD h1)];exact h1,bD h2 hb⟩
end
noncomputable section
open Cases
abbrev fI:=Int×Int×Int
def fB:List fI:=[(0,9,3),(10,10,2),(11,12,3),(13,13,1),(14,31,3),(127,159,3),(169,169,12),(173,173,3),(174,174,12),(768,879,4),(1155,1161,4),(1425,1469,4),(1536,1541,7),(1611,1631,4),(1757,1757,7),(1807,1807,7),(2307,2307,6),(2364,2364,4),(2366,2368,6),(2377,2380,6),(2381,2381,4),(3635,3635,6),(3636,3642,4),(4352,4447,8),(4448,4519,9),(4520,4607,10),(8203,8203,3),(8204,8204,4),(8205,8205,5),(8232,8233,3),(8252,8252,12),(8265,8265,12),(8400,8432,4),(8482,8482,12),(8592,8703,12),(8960,9215,12),(9632,10175,12),(10548,10549,12),(11013,11093,12),(12336,12336,12),(12349,12349,12),(12441,12442,4),(12951,12951,12),(12953,12953,12),(44032,55203,11),(65024,65039,4),(65279,65279,3),(69821,69821,7),(126976,127231,12),(127462,127487,13),(127744,127994,12),(127995,127999,4),(128000,129791,12),(917536,917631,4)]
def gF:List fI:=[(10,10,2),(11,12,3),(13,13,1),(32,32,18),(34,34,12),(39,39,11),(44,44,15),(46,46,13),(48,57,16),(58,58,14),(59,59,15),(65,90,10),(95,95,17),(97,122,10),(133,133,3),(169,169,19),(170,170,10),(173,173,6),(174,174,19),(181,181,10),(183,183,14),(192,214,10),(216,246,10),(248,687,10),(768,879,4),(880,883,10),(902,902,10),(904,1153,10),(1162,1366,10),(1425,1469,4),(1488,1514,9),(1568,1610,10),(1632,1641,16),(1644,1644,15),(7680,8124,10),(8192,8198,18),(8204,8204,4),(8205,8205,5),(8206,8207,6),(8216,8217,13),(8232,8233,3),(8255,8255,17),(8288,8288,6),(9728,10175,19),(12288,12288,18),(12441,12442,4),(12449,12538,8),(12540,12540,8),(44032,55203,10),(64256,64262,10),(65024,65039,4),(65279,65279,6),(65382,65437,8),(127462,127487,7),(127744,127994,19),(127995,127999,4),(128000,128591,19),(128640,128767,19)]
def nR:fI:=(0,0,0)
def KI (w:World) (v:Value) (l:List fI):Prop:=
 ∃D o R oR c,v= .pointer (some ⟨D,o,none⟩)/\w.cell? ⟨D,o+3,none⟩=some (.slice (some ⟨R,oR,none⟩) l.length c)/\l.length<=c/\
  ∀k,k<l.length->w.cell? ⟨R,oR+k*3,none⟩=some (.int .i32 (l.getD k nR).1)/\w.cell? ⟨R,oR+k*3+1,none⟩=some (.int .i32 (l.getD k nR).2.1)/\w.cell? ⟨R,oR+k*3+2,none⟩=some (.int .i64 (l.getD k nR).2.2)
def IY (w:World) (v:Value) (l:List Int):Prop:=
 ∃g o c,v= .slice (some ⟨g,o,none⟩) l.length c/\l.length<=c/\∀j,j<l.length->w.cell? ⟨g,o+j,none⟩=some (.int .i64 (l.getD j 0))
def isInt (k:IntKind) (x:AV) (n:Int):Bool:=match x with
 | .int k' m=>aA (decide (k'=k)) (decide (m=n))
 |_=>false
theorem lT {k:IntKind} {x:AV} {n:Int} (h:isInt k x n=true) {ι:aV} {v:Value} (hv:VR ι x v):v= .int k n:=by
 unfold isInt at h;split at h;·obtain⟨h1,h2⟩:=ak h;have hv:v=_:=hv;rw[hv,gK h1,gK h2]
 ·cases h
def UY (d:Nat) (t:E AV d):Nat->List fI->Bool
 |_,[]=>true
 |i,p::r=>aA (aA (isInt .i32 (E.get d (path d i) t) p.1) (aA (isInt .i32 (E.get d (path d (Nat.add i (nat_lit 1))) t) p.2.1) (isInt .i64 (E.get d (path d (Nat.add i (nat_lit 2))) t) p.2.2))) (UY d t (Nat.add i (nat_lit 3)) r)
theorem KJ {d:Nat} {t:E AV d}:∀{l:List fI} {i:Nat},UY d t i l=true->∀k,k<l.length->isInt .i32 (E.get d (path d (i+k*3)) t) (l.getD k nR).1=true/\isInt .i32 (E.get d (path d (i+k*3+1)) t) (l.getD k nR).2.1=true/\isInt .i64 (E.get d (path d (i+k*3+2)) t) (l.getD k nR).2.2=true
 |[],_,_,k,hk=>by simp at hk
 |p::r,i,h,k,hk=>by
  obtain⟨h1,h2⟩:=ak h;cases k with
  |zero=>obtain⟨a,h1⟩:=ak h1;obtain⟨b,c⟩:=ak h1;rw[jU,dG];exact⟨a,b,c⟩
  |succ k=>have:=KJ h2 k (by simpa using hk);rw[show i+(k+1)*3=Nat.add i (nat_lit 3)+k*3 by rw[fD,Nat.one_mul];show _=i+3+_;omega];simpa using this
def KL (h:H) (x:AV) (l:List fI):Bool:=match x with
 | .ptr b off=>match h.get b with
   |some (.cells _ _ n d t)=>aA (Nat.ble (Nat.add off (nat_lit 4)) n) (match E.get d (path d (Nat.add off (nat_lit 3))) t with
    | .slice b2 off2 len es _=>match h.get b2 with
      |some (.cells _ _ n2 d2 t2)=>aA (aA (Nat.beq len l.length) (Nat.beq es (nat_lit 3))) (aA (aA (Nat.ble (nat_lit 1) len) (Nat.ble (Nat.add off2 (Nat.mul len (nat_lit 3))) n2)) (UY d2 t2 off2 l))
      |_=>false
    |_=>false)
   |_=>false
 |_=>false
theorem El {h:H} {x:AV} {l:List fI} (e:KL h x l=true) {ι:aV} {w:World} {v:Value} (k:WR ι h w) (hv:VR ι x v):KI w v l:=by
 unfold KL at e;split at e
 ·rename_i b off;split at e
  ·rename_i el ro n d t hb;obtain⟨e0,e⟩:=ak e;obtain⟨D,o,rfl,hc⟩:=iB (c:=4) k hv hb (dh e0);obtain⟨v3,c3,r3⟩:=hc 3 (by omega);rw[show off+3=Nat.add off (nat_lit 3)from rfl]at r3;split at e
   ·rename_i b2 off2 len es z hs;rw[hs]at r3;split at e
    ·rename_i el2 ro2 n2 d2 t2 hb2;obtain⟨e1,e2⟩:=ak e;obtain⟨a1,a2⟩:=ak e1;obtain⟨e3,e4⟩:=ak e2;obtain⟨b1,b3⟩:=ak e3;have a1:=aI a1;have a2:=aI a2;have b1:=dh b1;have b3:=dh b3;subst a2;obtain⟨R,oR,cap,rfl,hcap,hcell⟩:=eO k r3 (by exact b1) hb2 (by exact b3);refine⟨D,o,R,oR,cap,rfl,by rw[<-a1];exact c3,by rw[<-a1];exact hcap,λj hj=> ?_⟩;obtain⟨q1,q2,q3⟩:=KJ e4 j hj;obtain⟨y1,z1,s1⟩:=hcell (j*3) (by show j*3<len*3;omega);obtain⟨y2,z2,s2⟩:=hcell (j*3+1) (by show j*3+1<len*3;omega);obtain⟨y3,z3,s3⟩:=hcell (j*3+2) (by show j*3+2<len*3;omega);rw[<-l8]at z2 z3 s2 s3;exact⟨by rw[z1,lT q1 s1],by rw[z2,lT q2 s2],by rw[z3,lT q3 s3]⟩
    ·cases e
   ·cases e
  ·cases e
 ·cases e
def M7 (d:Nat) (t:E AV d):Nat->List Int->Bool
 |_,[]=>true
 |i,n::r=>aA (isInt .i64 (E.get d (path d i) t) n) (M7 d t (Nat.succ i) r)
theorem Gl {d:Nat} {t:E AV d}:∀{l:List Int} {i:Nat},M7 d t i l=true->∀j,j<l.length->isInt .i64 (E.get d (path d (i+j)) t) (l.getD j 0)=true
 |[],_,_,j,hj=>by simp at hj
 |n::r,i,h,j,hj=>by
  obtain⟨h1,h2⟩:=ak h;cases j with
  |zero=>exact h1
  |succ j=>have:=Gl h2 j (by simpa using hj);rw[show i+(j+1)=Nat.succ i+j by omega];simpa using this
def IZ (h:H) (x:AV) (l:List Int):Bool:=match x with
 | .slice b off len es _=>match h.get b with
   |some (.cells _ _ n d t)=>aA (aA (Nat.beq len l.length) (Nat.beq es (nat_lit 1))) (aA (aA (Nat.ble (nat_lit 1) len) (Nat.ble (Nat.add off len) n)) (M7 d t off l))
   |_=>false
 |_=>false
theorem M8 {h:H} {x:AV} {l:List Int} (e:IZ h x l=true) {ι:aV} {w:World} {v:Value} (k:WR ι h w) (hv:VR ι x v):IY w v l:=by
 unfold IZ at e;split at e
 ·rename_i b off len es z;split at e
  ·rename_i el ro n d t hb;obtain⟨e1,e2⟩:=ak e;obtain⟨a1,a2⟩:=ak e1;obtain⟨e3,e4⟩:=ak e2;obtain⟨b1,b2⟩:=ak e3;have a1:=aI a1;have a2:=aI a2;have b1:=dh b1;have b2:=dh b2;subst a2;obtain⟨B,o,cap,rfl,hc,hcell⟩:=eO k hv (by exact b1) hb (by show off+len*1<=n;have:off+len<=n:=b2;omega);refine⟨B,o,cap,by rw[a1],by rw[<-a1];exact hc,λj hj=> ?_⟩;obtain⟨y,hy,ry⟩:=hcell j (by show j<len*1;omega);rw[hy,lT (Gl e4 j hj) ry]
  ·cases e
 ·cases e
def wQ (w:World) (v:Value):Prop:=∃B o,v= .pointer (some ⟨B,o,none⟩)/\uh w v/\(∃d,w.cell? ⟨B,o+3,none⟩=some d/\KI w d fB)/\∃i,w.cell? ⟨B,o+4,none⟩=some i/\IY w i [4,5,6]
def Em (v:AV) (h:H):Bool:=match v with
 | .ptr b off=>match h.get b with
   |some (.cells _ _ n d t)=>aA (Nat.ble (Nat.add off (nat_lit 5)) n) (aA (Ei v h) (aA (KL h (E.get d (path d (Nat.add off (nat_lit 3))) t) fB) (IZ h (E.get d (path d (Nat.add off (nat_lit 4))) t) [4,5,6])))
   |_=>false
 |_=>false
theorem UZ {ι:aV} {h:H} {w:World} {x:AV} {v:Value} (e:Em x h=true) (k:WR ι h w) (hv:VR ι x v):wQ w v:=by
 unfold Em at e;split at e
 ·rename_i b off;split at e
  ·rename_i el ro n d t hb;obtain⟨e0,e⟩:=ak e;obtain⟨e1,e⟩:=ak e;obtain⟨e2,e3⟩:=ak e;have hP:=UU e1 k hv;obtain⟨B,o,rfl,hc⟩:=iB (c:=5) k hv hb (dh e0);obtain⟨v3,c3,r3⟩:=hc 3 (by omega);obtain⟨v4,c4,r4⟩:=hc 4 (by omega);exact⟨B,o,rfl,hP,⟨v3,c3,El e2 k r3⟩,v4,c4,M8 e3 k r4⟩
  ·cases e
 ·cases e
theorem lC {w w':World} {v:Value} {l:List fI} (h:KI w v l) (hb:RowKit.Below w.heap.size w w'):KI w' v l:=by
 obtain⟨D,o,R,oR,c,rfl,c1,c2,c3⟩:=h;exact⟨D,o,R,oR,c,rfl,by rw[hb.cell (gD c1)];exact c1,c2,λk hk=>by
  obtain⟨a1,a2,a3⟩:=c3 k hk;exact⟨by rw[hb.cell (gD a1)];exact a1,by rw[hb.cell (gD a2)];exact a2,by rw[hb.cell (gD a3)];exact a3⟩⟩
theorem I4 {w w':World} {v:Value} {l:List Int} (h:IY w v l) (hb:RowKit.Below w.heap.size w w'):IY w' v l:=by obtain⟨g,o,c,rfl,c1,c2⟩:=h;exact⟨g,o,c,rfl,c1,λj hj=>by rw[hb.cell (gD (c2 j hj))];exact c2 j hj⟩
theorem eT {w w':World} {v:Value} (h:wQ w v) (hb:RowKit.Below w.heap.size w w'):wQ w' v:=by obtain⟨B,o,rfl,h1,⟨d,h2,h3⟩,i,h4,h5⟩:=h;exact⟨B,o,rfl,iO h1 hb,⟨d,by rw[hb.cell (gD h2)];exact h2,lC h3 hb⟩,i,by rw[hb.cell (gD h4)];exact h4,I4 h5 hb⟩
end
noncomputable section
open Cases
def setOf (c:Int):List (Int×Int):=(fB.filter (λx=>decide (x.2.2=c))).map λx=>(x.1,x.2.1)
def KM (w:World) (v:Value) (l:List (Int×Int)):Prop:=
 ∃g o c,v= .slice (some ⟨g,o,none⟩) l.length c/\l.length<=c/\∀j,j<l.length->w.cell? ⟨g,o+j*2,none⟩=some (.int .i32 (l.getD j (0,0)).1)/\w.cell? ⟨g,o+j*2+1,none⟩=some (.int .i32 (l.getD j (0,0)).2)
def U0 (d:Nat) (t:E AV d):Nat->List (Int×Int)->Bool
 |_,[]=>true
 |i,p::r=>aA (aA (isInt .i32 (E.get d (path d i) t) p.1) (isInt .i32 (E.get d (path d (Nat.add i (nat_lit 1))) t) p.2)) (U0 d t (Nat.add i (nat_lit 2)) r)
theorem KN {d:Nat} {t:E AV d}:∀{l:List (Int×Int)} {i:Nat},U0 d t i l=true->∀k,k<l.length->isInt .i32 (E.get d (path d (i+k*2)) t) (l.getD k (0,0)).1=true/\isInt .i32 (E.get d (path d (i+k*2+1)) t) (l.getD k (0,0)).2=true
 |[],_,_,k,hk=>by simp at hk
 |p::r,i,h,k,hk=>by
  obtain⟨h1,h2⟩:=ak h;cases k with
  |zero=>obtain⟨a,b⟩:=ak h1;rw[jU,dG];exact⟨a,b⟩
  |succ k=>have:=KN h2 k (by simpa using hk);rw[show i+(k+1)*2=Nat.add i (nat_lit 2)+k*2 by rw[fD,Nat.one_mul];show _=i+2+_;omega];simpa using this
def I5 (h:H) (x:AV) (l:List (Int×Int)):Bool:=match x with
 | .slice b off len es _=>match h.get b with
   |some (.cells _ _ n d t)=>aA (aA (Nat.beq len l.length) (Nat.beq es (nat_lit 2))) (aA (aA (Nat.ble (nat_lit 1) len) (Nat.ble (Nat.add off (Nat.mul len (nat_lit 2))) n)) (U0 d t off l))
   |_=>false
 |_=>false
theorem QW {h:H} {x:AV} {l:List (Int×Int)} (e:I5 h x l=true) {ι:aV} {w:World} {v:Value} (k:WR ι h w) (hv:VR ι x v):KM w v l:=by
 unfold I5 at e;split at e
 ·rename_i b off len es z;split at e
  ·rename_i el ro n d t hb;obtain⟨e1,e2⟩:=ak e;obtain⟨a1,a2⟩:=ak e1;obtain⟨e3,e4⟩:=ak e2;obtain⟨b1,b3⟩:=ak e3;have a1:=aI a1;have a2:=aI a2;have b1:=dh b1;have b3:=dh b3;subst a2;obtain⟨R,oR,cap,rfl,hcap,hcell⟩:=eO k hv (by exact b1) hb (by exact b3);refine⟨R,oR,cap,by rw[<-a1],by rw[<-a1];exact hcap,λj hj=> ?_⟩;obtain⟨q1,q2⟩:=KN e4 j hj;obtain⟨y1,z1,s1⟩:=hcell (j*2) (by show j*2<len*2;omega);obtain⟨y2,z2,s2⟩:=hcell (j*2+1) (by show j*2+1<len*2;omega);rw[<-l8]at z2 s2;exact⟨by rw[z1,lT q1 s1],by rw[z2,lT q2 s2]⟩
  ·cases e
 ·cases e
def M9 (h:H) (d:Nat) (t:E AV d):Nat->List (List (Int×Int))->Bool
 |_,[]=>true
 |i,fs::r=>aA (I5 h (E.get d (path d i) t) fs) (M9 h d t (Nat.add i (nat_lit 1)) r)
theorem Gm {h:H} {d:Nat} {t:E AV d}:∀{l:List (List (Int×Int))} {i:Nat},M9 h d t i l=true->∀j,j<l.length->I5 h (E.get d (path d (i+j)) t) (l.getD j [])=true
 |[],_,_,j,hj=>by simp at hj
 |fs::r,i,e,j,hj=>by
  obtain⟨h1,h2⟩:=ak e;cases j with
  |zero=>exact h1
  |succ j=>have:=Gm h2 j (by simpa using hj);rw[show i+(j+1)=Nat.add i (nat_lit 1)+j by show _=i+1+j;omega];simpa using this
def wR:List (List (Int×Int)):=[setOf 1,setOf 2,setOf 3,setOf 4,setOf 5,setOf 6,setOf 7,setOf 8,setOf 9,setOf 10,setOf 11,setOf 12,setOf 13]
def uj (w:World) (v:Value) (l:List (List (Int×Int))):Prop:=
 ∃D o S oS c,v= .pointer (some ⟨D,o,none⟩)/\w.cell? ⟨D,o+1,none⟩=some (.slice (some ⟨S,oS,none⟩) (l.length+1) c)/\l.length+1<=c/\∀i,i<l.length->∃s,w.cell? ⟨S,oS+(i+1),none⟩=some s/\KM w s (l.getD i [])
def Cy (h:H) (x:AV) (l:List (List (Int×Int))):Bool:=match x with
 | .ptr b off=>match h.get b with
   |some (.cells _ _ n d t)=>aA (Nat.ble (Nat.add off (nat_lit 2)) n) (match E.get d (path d (Nat.add off (nat_lit 1))) t with
    | .slice b2 off2 len es _=>match h.get b2 with
      |some (.cells _ _ n2 d2 t2)=>aA (aA (Nat.beq len (Nat.succ l.length)) (Nat.beq es (nat_lit 1))) (aA (Nat.ble (Nat.add off2 len) n2) (M9 h d2 t2 (Nat.add off2 (nat_lit 1)) l))
      |_=>false
    |_=>false)
   |_=>false
 |_=>false
theorem En {h:H} {x:AV} {l:List (List (Int×Int))} (e:Cy h x l=true) {ι:aV} {w:World} {v:Value} (k:WR ι h w) (hv:VR ι x v):uj w v l:=by
 unfold Cy at e;split at e
 ·rename_i b off;split at e
  ·rename_i el ro n d t hb;obtain⟨e0,e⟩:=ak e;obtain⟨D,o,rfl,hc⟩:=iB (c:=2) k hv hb (dh e0);obtain⟨v3,c3,r3⟩:=hc 1 (by omega);rw[show off+1=Nat.add off (nat_lit 1)from rfl]at r3;split at e
   ·rename_i b2 off2 len es z hs;rw[hs]at r3;split at e
    ·rename_i el2 ro2 n2 d2 t2 hb2;obtain⟨e1,e2⟩:=ak e;obtain⟨a1,a2⟩:=ak e1;obtain⟨b3,e4⟩:=ak e2;have a1:=aI a1;have a2:=aI a2;have b3:off2+len<=n2:=dh b3;subst a1 a2;obtain⟨R,oR,cap,rfl,hcap,hcell⟩:=eO k r3 (by show 0<l.length+1;omega) hb2 (by show off2+(l.length+1)*1<=n2;rw[Nat.mul_one];exact b3);refine⟨D,o,R,oR,cap,rfl,c3,hcap,λi hi=> ?_⟩;obtain⟨y,hy,ry⟩:=hcell (i+1) (by show i+1<(l.length+1)*1;omega);have q:=Gm e4 i hi;rw[show off2+(i+1)=Nat.add off2 (nat_lit 1)+i by show _=off2+1+i;omega]at ry;exact⟨y,hy,QW q k ry⟩
    ·cases e
   ·cases e
  ·cases e
 ·cases e
def Bj (w:World) (v:Value):Prop:=Gj w v/\∃B o G oG d,v= .pointer (some ⟨B,o,none⟩)/\w.cell? ⟨B,o+2,none⟩=some (.pointer (some ⟨G,oG,none⟩))/\w.cell? ⟨G,oG,none⟩=some d/\uj w d wR
def KO (v:AV) (h:H):Bool:=match v with
 | .ptr b off=>match h.get b with
   |some (.cells _ _ n d t)=>aA (Nat.ble (Nat.add off (nat_lit 3)) n) (match E.get d (path d (Nat.add off (nat_lit 2))) t with
    | .ptr b2 off2=>match h.get b2 with
      |some (.cells _ _ n2 d2 t2)=>aA (Nat.ble (Nat.add off2 (nat_lit 1)) n2) (Cy h (E.get d2 (path d2 off2) t2) wR)
      |_=>false
    |_=>false)
   |_=>false
 |_=>false
def I6 (v:AV) (h:H):Bool:=aA (IX v h) (KO v h)
theorem U2 {ι:aV} {h:H} {w:World} {x:AV} {v:Value} (e:I6 x h=true) (k:WR ι h w) (hv:VR ι x v):Bj w v:=by
 unfold I6 at e;have e1:=(ak e).1;have e2:=(ak e).2;clear e;refine⟨UW e1 k hv,?_⟩;clear e1;have e:=e2;clear e2;unfold KO at e;split at e
 ·rename_i b off;split at e
  ·rename_i el ro n d t hb;obtain⟨e0,e⟩:=ak e;obtain⟨B,o,rfl,hc⟩:=iB (c:=3) k hv hb (dh e0);obtain⟨v2,c2,r2⟩:=hc 2 (by omega);rw[show off+2=Nat.add off (nat_lit 2)from rfl]at r2;split at e
   ·rename_i b2 off2 hs;rw[hs]at r2;split at e
    ·rename_i el2 ro2 n2 d2 t2 hb2;obtain⟨f0,f1⟩:=ak e;obtain⟨G,oG,rfl,hg⟩:=iB (c:=1) k r2 hb2 (dh f0);obtain⟨v3,c3,r3⟩:=hg 0 (by omega);exact⟨B,o,G,oG,v3,rfl,c2,c3,En f1 k r3⟩
    ·cases e
   ·cases e
  ·cases e
 ·cases e
theorem mW {w w':World} {v:Value} {l:List (List (Int×Int))} (h:uj w v l) (hb:RowKit.Below w.heap.size w w'):uj w' v l:=by obtain⟨D,o,S,oS,c,rfl,c1,c2,c3⟩:=h;refine⟨D,o,S,oS,c,rfl,by rw[hb.cell (gD c1)];exact c1,c2,λi hi=> ?_⟩;obtain⟨s,h1,g,o2,c4,rfl,h2,h3⟩:=c3 i hi;exact⟨_,by rw[hb.cell (gD h1)];exact h1,g,o2,c4,rfl,h2,λj hj=>⟨by rw[hb.cell (gD (h3 j hj).1)];exact(h3 j hj).1,by rw[hb.cell (gD (h3 j hj).2)];exact(h3 j hj).2⟩⟩
end
noncomputable section
def I7 (v:AV) (h:H):Bool:=match v with
 | .fT (.cons d (.cons _ (.cons _ .nil)))=>KL h d gF
 |_=>false
theorem Yg {ι:aV} {h:H} {w:World} {x:AV} {v:Value} (e:I7 x h=true) (k:WR ι h w) (hv:VR ι x v):∃d a b,v= .tuple #[d,a,b]/\KI w d gF:=by
 unfold I7 at e;split at e;·obtain⟨xs,rfl,d,l1,h1,hd,a,l2,h2,_,b,l3,h3,_,h4⟩:=hv;subst h4 h3 h2;exact⟨d,a,b,by rw[show xs=#[d,a,b]from Array.ext' h1],El e k hd⟩
 ·cases e
end
noncomputable section
def KP (v:AV) (h:H):Bool:=match v with
 | .fT (.cons d (.cons _ (.cons _ .nil)))=>KL h d fB
 |_=>false
theorem aeA {ι:aV} {h:H} {w:World} {x:AV} {v:Value} (e:KP x h=true) (k:WR ι h w) (hv:VR ι x v):∃d a b,v= .tuple #[d,a,b]/\KI w d fB:=by
 unfold KP at e;split at e;·obtain⟨xs,rfl,d,l1,h1,hd,a,l2,h2,_,b,l3,h3,_,h4⟩:=hv;subst h4 h3 h2;exact⟨d,a,b,by rw[show xs=#[d,a,b]from Array.ext' h1],El e k hd⟩
 ·cases e
