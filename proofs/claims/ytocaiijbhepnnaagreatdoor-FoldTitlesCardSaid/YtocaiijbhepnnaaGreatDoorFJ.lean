/- FoldTitles, walked: word.Bounds, exactly. -/
import Derived.Deep.DeepCutAuto
import Derived.Test.YtocaiijbhepnnaaGreatDoorFI
set_option maxRecDepth 100000
set_option maxHeartbeats 8000000
namespace Go.Proofs.YtocaiijbhepnnaaGreatDoor.foldTitles
open Go.Shelf Go.RowKit Go.Lib Go.Proofs.YtocaiijbhepnnaaGreatDoor.Am
def uH (c:Int):Bool:=c==3||c==1||c==2
def bY (c:Int):Bool:=c==4||c==6||c==5
def qG (c:Int):Bool:=c==10||c==9
def KY (c:Int):Bool:=c==14||c==13||c==11
def KZ (c:Int):Bool:=c==15||c==13||c==11
def wS (c:Int):Bool:=qG c||c==16||c==8
def EG (b:Bool) (W:World) (e:Ending) (w':World):Prop:=e= .returned (.bool b)/\w'=W
theorem Pv (c:Int) (W:World):Calls Tryz.prog 147 #[.int .i64 c] W (EG (uH c) W):=by
 unfold uH;by_cases h1:c=3;·subst h1;go_enter Tryz.func147,Tryz.ntmps147;go_wp2;go_ret;exact⟨rfl,rfl⟩
 ·by_cases h2:c=1
  ·subst h2;go_enter Tryz.func147,Tryz.ntmps147;go_wp2;go_ret;exact⟨rfl,rfl⟩
  ·go_enter Tryz.func147,Tryz.ntmps147;go_wp2;go_ret;exact⟨by first|rfl|simp[h1,h2],rfl⟩
theorem qH (c:Int) (W:World):Calls Tryz.prog 148 #[.int .i64 c] W (EG (bY c) W):=by
 unfold bY;by_cases h1:c=4;·subst h1;go_enter Tryz.func148,Tryz.ntmps148;go_wp2;go_ret;exact⟨rfl,rfl⟩
 ·by_cases h2:c=6
  ·subst h2;go_enter Tryz.func148,Tryz.ntmps148;go_wp2;go_ret;exact⟨rfl,rfl⟩
  ·go_enter Tryz.func148,Tryz.ntmps148;go_wp2;go_ret;exact⟨by first|rfl|simp[h1,h2],rfl⟩
theorem cB (c:Int) (W:World):Calls Tryz.prog 215 #[.int .i64 c] W (EG (qG c) W):=by
 unfold qG;by_cases h1:c=10;·subst h1;go_enter Tryz.func215,Tryz.ntmps215;go_wp2;go_ret;exact⟨rfl,rfl⟩
 ·go_enter Tryz.func215,Tryz.ntmps215;go_wp2;go_ret;exact⟨by first|rfl|simp[h1],rfl⟩
theorem wh (c:Int) (W:World):Calls Tryz.prog 216 #[.int .i64 c] W (EG (KY c) W):=by
 unfold KY;by_cases h1:c=14;·subst h1;go_enter Tryz.func216,Tryz.ntmps216;go_wp2;go_ret;exact⟨rfl,rfl⟩
 ·by_cases h2:c=13
  ·subst h2;go_enter Tryz.func216,Tryz.ntmps216;go_wp2;go_ret;exact⟨rfl,rfl⟩
  ·go_enter Tryz.func216,Tryz.ntmps216;go_wp2;go_ret;exact⟨by first|rfl|simp[h1,h2],rfl⟩
theorem oZ (c:Int) (W:World):Calls Tryz.prog 217 #[.int .i64 c] W (EG (KZ c) W):=by
 unfold KZ;by_cases h1:c=15;·subst h1;go_enter Tryz.func217,Tryz.ntmps217;go_wp2;go_ret;exact⟨rfl,rfl⟩
 ·by_cases h2:c=13
  ·subst h2;go_enter Tryz.func217,Tryz.ntmps217;go_wp2;go_ret;exact⟨rfl,rfl⟩
  ·go_enter Tryz.func217,Tryz.ntmps217;go_wp2;go_ret;exact⟨by first|rfl|simp[h1,h2],rfl⟩
theorem gY (c:Int) (W:World):Calls Tryz.prog 218 #[.int .i64 c] W (EG (wS c) W):=by
 unfold wS;cases h:qG c with
 |true=>go_enter Tryz.func218,Tryz.ntmps218;go_wp2_with (go_at_call 215;refine(cB c _).mono ?_;rintro e w1 ⟨rfl,rfl⟩;rw[h]);go_ret;exact⟨rfl,rfl⟩
 |false=>
  by_cases h1:c=16;·subst h1;go_enter Tryz.func218,Tryz.ntmps218;go_wp2_with (go_at_call 215;refine(cB 16 _).mono ?_;rintro e w1 ⟨rfl,rfl⟩;rw[h]);go_ret;exact⟨rfl,rfl⟩
  ·go_enter Tryz.func218,Tryz.ntmps218;go_wp2_with (go_at_call 215;refine(cB c _).mono ?_;rintro e w1 ⟨rfl,rfl⟩;rw[h]);go_ret;exact⟨by first|rfl|simp[h1],rfl⟩
def l1F (a q:Int):Bool:=qG a&&qG q
def Z4 (a q n:Int):Bool:=qG a&&KY q&&qG n
def Z5 (z a q:Int):Bool:=qG z&&KY a&&qG q
def h1F (a q:Int):Bool:=a==9&&q==11
def Z6 (a q n:Int):Bool:=a==9&&q==12&&n==9
def Z7 (z a q:Int):Bool:=z==9&&a==12&&q==9
def Z8 (a q:Int):Bool:=a==16&&(q==16||qG q)
def d2F (a q:Int):Bool:=qG a&&q==16
def Z9 (z a q:Int):Bool:=z==16&&KZ a&&q==16
def n2F (a q n:Int):Bool:=a==16&&KZ q&&n==16
def Ro (a q:Int):Bool:=a==8&&q==8||(wS a||a==17)&&q==17||a==17&&wS q
def kD (z a q n:Int):Bool:=l1F a q||Z4 a q n||Z5 z a q||h1F a q||Z6 a q n||Z7 z a q||Z8 a q||d2F a q||Z9 z a q||n2F a q n||Ro a q
theorem rV (z a q n:Int) (W:World):Calls Tryz.prog 150 #[.int .i64 z, .int .i64 a, .int .i64 q, .int .i64 n] W (EG (kD z a q n) W):=by
 unfold kD;go_enter Tryz.func150,Tryz.ntmps150;go_upto_region 1 with fail;go_cut [9] (λc wx=>c= .bool (l1F a q)/\W=wx);case first=>
  cases h0:qG a;case false=>go_wp2_with (go_at_call 215;refine(cB _ _).mono ?_;rintro e w1 ⟨rfl,rfl⟩;try rw[h0]);go_meet;exact⟨by unfold l1F;rw[h0];rfl,rfl⟩
  case true=>go_wp2_with (go_at_call 215;refine(cB _ _).mono ?_;rintro e w1 ⟨rfl,rfl⟩;try rw[h0]);go_meet;exact⟨by unfold l1F;rw[h0];rfl,rfl⟩
 case rest=>
  obtain⟨rfl,rfl⟩:=hcut;cases e1:l1F a q;case true=>go_wp2_with fail;go_ret;exact⟨by simp[e1],rfl⟩
  case false=>
   have E1:=ah e1;clear e1;go_upto_region 2 with fail;go_cut [9] (λc wx=>c= .bool (Z4 a q n)/\W=wx);case first=>
    cases h1:qG a;case false=>go_wp2_with (go_at_call 215;refine(cB _ _).mono ?_;rintro e w1 ⟨rfl,rfl⟩;try rw[h1]);go_meet;exact⟨by unfold Z4;rw[h1];rfl,rfl⟩
    case true=>
     cases h2:KY q;case false=>go_wp2_with (first|(go_at_call 216;refine(wh _ _).mono ?_;rintro e w1 ⟨rfl,rfl⟩;try rw[h2])|(go_at_call 215;refine(cB _ _).mono ?_;rintro e w1 ⟨rfl,rfl⟩;try rw[h1]));go_meet;exact⟨by unfold Z4;rw[h1,h2];rfl,rfl⟩
     case true=>go_wp2_with (first|(go_at_call 216;refine(wh _ _).mono ?_;rintro e w1 ⟨rfl,rfl⟩;try rw[h2])|(go_at_call 215;refine(cB _ _).mono ?_;rintro e w1 ⟨rfl,rfl⟩;try rw[h1]));go_meet;exact⟨by unfold Z4;rw[h1,h2];rfl,rfl⟩
   case rest=>
    obtain⟨rfl,rfl⟩:=hcut;cases e2:Z4 a q n;case true=>go_wp2_with fail;go_ret;exact⟨by simp[e2],rfl⟩
    case false=>
     have E2:=ah e2;clear e2;go_upto_region 3 with fail;go_cut [9] (λc wx=>c= .bool (Z5 z a q)/\W=wx);case first=>
      cases h3:qG z;case false=>go_wp2_with (go_at_call 215;refine(cB _ _).mono ?_;rintro e w1 ⟨rfl,rfl⟩;try rw[h3]);go_meet;exact⟨by unfold Z5;rw[h3];rfl,rfl⟩
      case true=>
       cases h4:KY a;case false=>go_wp2_with (first|(go_at_call 216;refine(wh _ _).mono ?_;rintro e w1 ⟨rfl,rfl⟩;try rw[h4])|(go_at_call 215;refine(cB _ _).mono ?_;rintro e w1 ⟨rfl,rfl⟩;try rw[h3]));go_meet;exact⟨by unfold Z5;rw[h3,h4];rfl,rfl⟩
       case true=>go_wp2_with (first|(go_at_call 216;refine(wh _ _).mono ?_;rintro e w1 ⟨rfl,rfl⟩;try rw[h4])|(go_at_call 215;refine(cB _ _).mono ?_;rintro e w1 ⟨rfl,rfl⟩;try rw[h3]));go_meet;exact⟨by unfold Z5;rw[h3,h4];rfl,rfl⟩
     case rest=>
      obtain⟨rfl,rfl⟩:=hcut;cases e3:Z5 z a q;case true=>go_wp2_with fail;go_ret;exact⟨by simp[e3],rfl⟩
      case false=>
       have E3:=ah e3;clear e3;go_upto_region 5 with fail;go_cut [36] (λc wx=>c= .bool (h1F a q)/\W=wx);case first=>
        by_cases h5:a=9;·subst h5;go_wp2_with fail;go_meet;exact⟨by unfold h1F;rfl,rfl⟩
        ·have b5:(a==9)=false:=by simp[h5]
         go_wp2_with fail;go_meet;exact⟨by unfold h1F;rw[b5];rfl,rfl⟩
       case rest=>
        obtain⟨rfl,rfl⟩:=hcut;cases e5:h1F a q;case true=>go_wp2_with fail;go_ret;exact⟨by simp[e5],rfl⟩
        case false=>
         have E5:=ah e5;clear e5;go_upto_region 6 with fail;go_cut [36] (λc wx=>c= .bool (Z6 a q n)/\W=wx);case first=>
          by_cases h6:a=9
          ·subst h6;by_cases h7:q=12
           ·subst h7;go_wp2_with fail;go_meet;exact⟨by unfold Z6;rfl,rfl⟩
           ·have b7:(q==12)=false:=by simp[h7]
            go_wp2_with fail;go_meet;exact⟨by unfold Z6;rw[b7];rfl,rfl⟩
          ·have b6:(a==9)=false:=by simp[h6]
           go_wp2_with fail;go_meet;exact⟨by unfold Z6;rw[b6];rfl,rfl⟩
         case rest=>
          obtain⟨rfl,rfl⟩:=hcut;cases e6:Z6 a q n;case true=>go_wp2_with fail;go_ret;exact⟨by simp[e6],rfl⟩
          case false=>
           have E6:=ah e6;clear e6;go_upto_region 7 with fail;go_cut [36] (λc wx=>c= .bool (Z7 z a q)/\W=wx);case first=>
            by_cases h8:z=9
            ·subst h8;by_cases h9:a=12
             ·subst h9;go_wp2_with fail;go_meet;exact⟨by unfold Z7;rfl,rfl⟩
             ·have b9:(a==12)=false:=by simp[h9]
              go_wp2_with fail;go_meet;exact⟨by unfold Z7;rw[b9];rfl,rfl⟩
            ·have b8:(z==9)=false:=by simp[h8]
             go_wp2_with fail;go_meet;exact⟨by unfold Z7;rw[b8];rfl,rfl⟩
           case rest=>
            obtain⟨rfl,rfl⟩:=hcut;cases e7:Z7 z a q;case true=>go_wp2_with fail;go_ret;exact⟨by simp[e7],rfl⟩
            case false=>
             have E7:=ah e7;clear e7;go_upto_region 9 with fail;go_cut [63] (λc wx=>c= .bool (Z8 a q)/\W=wx);case first=>
              by_cases h10:a=16
              ·subst h10;by_cases h11:q=16
               ·subst h11;go_wp2_with fail;go_meet;exact⟨by unfold Z8;rfl,rfl⟩
               ·have b11:(q==16)=false:=by simp[h11]
                go_wp2_with (go_at_call 215;refine(cB _ _).mono ?_;rintro e w1 ⟨rfl,rfl⟩);go_meet;exact⟨by unfold Z8;rw[b11];rfl,rfl⟩
              ·have b10:(a==16)=false:=by simp[h10]
               go_wp2_with fail;go_meet;exact⟨by unfold Z8;rw[b10];rfl,rfl⟩
             case rest=>
              obtain⟨rfl,rfl⟩:=hcut;cases e9:Z8 a q;case true=>go_wp2_with fail;go_ret;exact⟨by simp[e9],rfl⟩
              case false=>
               have E9:=ah e9;clear e9;go_upto_region 10 with fail;go_cut [63] (λc wx=>c= .bool (d2F a q)/\W=wx);case first=>
                cases h12:qG a;case false=>go_wp2_with (go_at_call 215;refine(cB _ _).mono ?_;rintro e w1 ⟨rfl,rfl⟩;try rw[h12]);go_meet;exact⟨by unfold d2F;rw[h12];rfl,rfl⟩
                case true=>go_wp2_with (go_at_call 215;refine(cB _ _).mono ?_;rintro e w1 ⟨rfl,rfl⟩;try rw[h12]);go_meet;exact⟨by unfold d2F;rw[h12];rfl,rfl⟩
               case rest=>
                obtain⟨rfl,rfl⟩:=hcut;cases e10:d2F a q;case true=>go_wp2_with fail;go_ret;exact⟨by simp[e10],rfl⟩
                case false=>
                 have W9:=ah e10;clear e10;go_upto_region 12 with fail;go_cut [80] (λc wx=>c= .bool (Z9 z a q)/\W=wx);case first=>
                  by_cases h13:z=16
                  ·subst h13;cases h14:KZ a;case false=>go_wp2_with (go_at_call 217;refine(oZ _ _).mono ?_;rintro e w1 ⟨rfl,rfl⟩;try rw[h14]);go_meet;exact⟨by unfold Z9;rw[h14];rfl,rfl⟩
                   case true=>go_wp2_with (go_at_call 217;refine(oZ _ _).mono ?_;rintro e w1 ⟨rfl,rfl⟩;try rw[h14]);go_meet;exact⟨by unfold Z9;rw[h14];rfl,rfl⟩
                  ·have b13:(z==16)=false:=by simp[h13]
                   go_wp2_with fail;go_meet;exact⟨by unfold Z9;rw[b13];rfl,rfl⟩
                 case rest=>
                  obtain⟨rfl,rfl⟩:=hcut;cases e12:Z9 z a q;case true=>go_wp2_with fail;go_ret;exact⟨by simp[e12],rfl⟩
                  case false=>
                   have Xa:=ah e12;clear e12;go_upto_region 13 with fail;go_cut [80] (λc wx=>c= .bool (n2F a q n)/\W=wx);case first=>
                    by_cases h15:a=16
                    ·subst h15;cases h16:KZ q;case false=>go_wp2_with (go_at_call 217;refine(oZ _ _).mono ?_;rintro e w1 ⟨rfl,rfl⟩;try rw[h16]);go_meet;exact⟨by unfold n2F;rw[h16];rfl,rfl⟩
                     case true=>go_wp2_with (go_at_call 217;refine(oZ _ _).mono ?_;rintro e w1 ⟨rfl,rfl⟩;try rw[h16]);go_meet;exact⟨by unfold n2F;rw[h16];rfl,rfl⟩
                    ·have b15:(a==16)=false:=by simp[h15]
                     go_wp2_with fail;go_meet;exact⟨by unfold n2F;rw[b15];rfl,rfl⟩
                   case rest=>
                    obtain⟨rfl,rfl⟩:=hcut;cases e13:n2F a q n;case true=>go_wp2_with fail;go_ret;exact⟨by simp[e13],rfl⟩
                    case false=>
                     have Xb:=ah e13;clear e13;go_upto_region 15 with fail;by_cases h17:a=8
                     ·subst h17;by_cases h18:q=8
                      ·subst h18;go_wp2_with fail;go_ret;exact⟨by unfold Ro;rw[E1.out,E2.out,E3.out,E5.out,E6.out,E7.out,E9.out,W9.out,Xa.out,Xb.out];rfl,rfl⟩
                      ·have b18:(q==8)=false:=by simp[h18]
                       cases h19:wS 8;case false=>go_wp2_with (go_at_call 218;refine(gY _ _).mono ?_;rintro e w1 ⟨rfl,rfl⟩;try rw[h19]);go_ret;exact⟨by unfold Ro;rw[E1.out,E2.out,E3.out,E5.out,E6.out,E7.out,E9.out,W9.out,Xa.out,Xb.out,b18,h19];rfl,rfl⟩
                       case true=>
                        by_cases h21:q=17;·subst h21;go_wp2_with (go_at_call 218;refine(gY _ _).mono ?_;rintro e w1 ⟨rfl,rfl⟩;try rw[h19]);go_ret;exact⟨by unfold Ro;rw[E1.out,E2.out,E3.out,E5.out,E6.out,E7.out,E9.out,W9.out,Xa.out,Xb.out,b18,h19];rfl,rfl⟩
                        ·have b21:(q==17)=false:=by simp[h21]
                         go_wp2_with (go_at_call 218;refine(gY _ _).mono ?_;rintro e w1 ⟨rfl,rfl⟩;try rw[h19]);go_ret;exact⟨by unfold Ro;rw[E1.out,E2.out,E3.out,E5.out,E6.out,E7.out,E9.out,W9.out,Xa.out,Xb.out,b18,h19,b21];rfl,rfl⟩
                     ·have b17:(a==8)=false:=by simp[h17]
                      cases h23:wS a;case false=>
                       by_cases h24:a=17
                       ·subst h24;by_cases h25:q=17
                        ·subst h25;go_wp2_with (go_at_call 218;refine(gY _ _).mono ?_;rintro e w1 ⟨rfl,rfl⟩;try rw[h23]);go_ret;exact⟨by unfold Ro;rw[E1.out,E2.out,E3.out,E5.out,E6.out,E7.out,E9.out,W9.out,Xa.out,Xb.out,b17,h23];rfl,rfl⟩
                        ·have b25:(q==17)=false:=by simp[h25]
                         go_wp2_with (go_at_call 218;refine(gY _ _).mono ?_;rintro e w1 ⟨rfl,rfl⟩;try rw[h23]);go_ret;exact⟨by unfold Ro;rw[E1.out,E2.out,E3.out,E5.out,E6.out,E7.out,E9.out,W9.out,Xa.out,Xb.out,b17,h23,b25];rfl,rfl⟩
                       ·have b24:(a==17)=false:=by simp[h24]
                        go_wp2_with (go_at_call 218;refine(gY _ _).mono ?_;rintro e w1 ⟨rfl,rfl⟩;try rw[h23]);go_ret;exact⟨by unfold Ro;rw[E1.out,E2.out,E3.out,E5.out,E6.out,E7.out,E9.out,W9.out,Xa.out,Xb.out,b17,h23,b24];rfl,rfl⟩
                      case true=>
                       by_cases h26:q=17;·subst h26;go_wp2_with (go_at_call 218;refine(gY _ _).mono ?_;rintro e w1 ⟨rfl,rfl⟩;try rw[h23]);go_ret;exact⟨by unfold Ro;rw[E1.out,E2.out,E3.out,E5.out,E6.out,E7.out,E9.out,W9.out,Xa.out,Xb.out,b17,h23];rfl,rfl⟩
                       ·have b26:(q==17)=false:=by simp[h26]
                        by_cases h27:a=17;·subst h27;go_wp2_with (go_at_call 218;refine(gY _ _).mono ?_;rintro e w1 ⟨rfl,rfl⟩;try rw[h23]);go_ret;exact⟨by unfold Ro;rw[E1.out,E2.out,E3.out,E5.out,E6.out,E7.out,E9.out,W9.out,Xa.out,Xb.out,b17,h23,b26];rfl,rfl⟩
                        ·have b27:(a==17)=false:=by simp[h27]
                         go_wp2_with (go_at_call 218;refine(gY _ _).mono ?_;rintro e w1 ⟨rfl,rfl⟩;try rw[h23]);go_ret;exact⟨by unfold Ro;rw[E1.out,E2.out,E3.out,E5.out,E6.out,E7.out,E9.out,W9.out,Xa.out,Xb.out,b17,h23,b26,b27];rfl,rfl⟩
structure qI (w:World) (g o n:Nat) (cls:List Int):Prop where
 len:cls.length=n
 small:n<=100000
 blk:g<w.heap.size
 cell:∀j,j<n->w.cell? ⟨g,o+j,none⟩=some (.int .i64 (cls.getD j 0))
theorem qI.below {w w':World} {g o n:Nat} {cls:List Int} (h:qI w g o n cls) {B:Nat} (hB:g<B) (hb:Below B w w'):qI w' g o n cls:=
 ⟨h.len,h.small,bJ h.blk hb.size,λj hj=>by rw[hb.cell (p:=⟨g,o+j,none⟩) hB];exact h.cell j hj⟩
theorem qI.alloc {w:World} {g o n:Nat} {cls:List Int} (h:qI w g o n cls) (x:Obj):qI (w.alloc x) g o n cls:=h.below h.blk ((aK _ w).alloc (ay _) x)
def cu (cls:List Int):Nat->Int
 |0=> -1
 |k+1=>if bY (cls.getD k 0)then cu cls k else k
def dB (cls:List Int) (i:Int):Int:=if 0<=i then cu cls i.toNat else i-1
theorem jN (cls:List Int):∀k,-1<=cu cls k/\cu cls k<k
 |0=>⟨Int.le_refl _,by show(-1:Int)<0;decide⟩
 |k+1=>by have:=jN cls k;show-1<=(if bY (cls.getD k 0)then cu cls k else(k:Int))/\(if bY (cls.getD k 0)then cu cls k else(k:Int))<((k+1:Nat):Int);split<;>omega
def fZ (cls:List Int) (i:Int):Int:=if i<0\/(cls.length:Int)<=i then-1 else cls.getD i.toNat 0
def nU (cls:List Int):Nat->Nat->Nat
 |0,i=>i
 |f+1,i=>if i<cls.length/\bY (cls.getD i 0)=true then nU cls f (i+1)else i
def BJ (cls:List Int) (i:Nat):Int:=fZ cls (nU cls (cls.length-i) (i+1))
def Gt (x:Int) (W:World) (e:Ending) (w':World):Prop:=e= .returned (.int .i64 x)/\Below W.heap.size W w'
theorem Pw (cls:List Int) (A1:Option Addr) (n1 c1 g o n c:Nat) (L:Int) (i:Nat) (W:World) (h:qI W g o n cls) (hi:i<=n):
 Calls Tryz.prog 149 #[.agg #[.slice A1 n1 c1, .slice (some ⟨g,o,none⟩) n c, .int .i64 L], .int .i64 i] W (Gt (cu cls i) W):=by
 have hgl:=h.blk;have hsm:=h.small;have HC:=ah h;clear h;obtain⟨i1,hi1⟩:∃i1:Int,(i:Int)-1=i1:=⟨_,rfl⟩
 have hwi:wrap64 ((i:Int)-1)=i1:=by unfold wrap64;omega
 go_enter Tryz.func149,Tryz.ntmps149;go_wp2;clear hwi;go_loopw [1] (λvi wr=>∃k:Nat,k<=i/\vi= .int .i64 ((k:Int)-1)/\cu cls k=cu cls i/\wr=W.alloc (.cells #[.slice A1 n1 c1, .slice (some ⟨g,o,none⟩) n c, .int .i64 L] 163)) (λvi _=>(RowKit.intOf vi+1).toNat);case atStart=>exact⟨i,ay _,by rw[hi1],rfl,rfl⟩
 case round=>
  obtain⟨k,hk,rfl,hbk,rfl⟩:=hrel;have HB:=ah hbk;clear hbk;cases k with
  |zero=>go_wp2;go_ret;exact⟨by rw[<-HB.out];rfl,(aK _ W).alloc (ay _) _⟩
  |succ j=>
   have hcell:=HC.out.cell j (by omega);obtain⟨x,hx⟩:∃x,cls.getD j 0=x:=⟨_,rfl⟩
   rw[hx]at hcell;have HX:=ah hx;clear hx;have he:(((j+1:Nat):Int)-1)=(j:Int):=by omega
   rw[he];have hwj:wrap64 ((j:Int)-1)=(j:Int)-1:=by unfold wrap64;omega
   have hj2:j<n:=by omega
   cases hh:bY x with
   |true=>
    go_wp2_with (go_at_call 148;refine(qH _ _).mono ?_;rintro e w1 ⟨rfl,rfl⟩;rw[hh]);refine⟨⟨j,by omega,by first|rfl|(congr 1;omega),?_,by first|rfl|trivial⟩,by simp[RowKit.intOf]<;>omega⟩;rw[<-HB.out];show _=if bY (cls.getD j 0)then _ else _
    rw[HX.out,hh];rfl
   |false=>go_wp2_with (go_at_call 148;refine(qH _ _).mono ?_;rintro e w1 ⟨rfl,rfl⟩;rw[hh]);go_ret;refine⟨?_,(aK _ W).alloc (ay _) _⟩;rw[<-HB.out];show _=Ending.returned (.int .i64 (if bY (cls.getD j 0)then _ else _));rw[HX.out,hh];rfl
theorem Vq (A1:Option Addr) (n1 c1 g o n c:Nat) (L i:Int) (W:World) (hi:i<0) (hi2: -100<i):
 Calls Tryz.prog 149 #[.agg #[.slice A1 n1 c1, .slice (some ⟨g,o,none⟩) n c, .int .i64 L], .int .i64 i] W (Gt (i-1) W):=by
 obtain⟨x,hx⟩:∃x:Int,i-1=x:=⟨_,rfl⟩
 have hwi:wrap64 (i-1)=x:=by unfold wrap64;omega
 rw[hx];have hx0:¬0<=x:=by omega
 go_enter Tryz.func149,Tryz.ntmps149;go_wp2;clear hwi;go_loopw [1] (λvi wr=>vi= .int .i64 x/\Below W.heap.size W wr) (λ_ _=>0);case atStart=>exact⟨by first|rfl|(congr 1;omega),(aK _ W).alloc (ay _) _⟩
 case round=>obtain⟨rfl,hb⟩:=hrel;go_wp2;go_ret;exact⟨rfl,hb⟩
theorem Jc (cls:List Int) (A1:Option Addr) (n1 c1 g o n c:Nat) (L i:Int) (W:World) (h:qI W g o n cls) (hi:i<=n) (hi2: -100<i):
 Calls Tryz.prog 149 #[.agg #[.slice A1 n1 c1, .slice (some ⟨g,o,none⟩) n c, .int .i64 L], .int .i64 i] W (Gt (dB cls i) W):=by
 unfold dB;split;·rename_i h0;obtain⟨k,rfl⟩:=Co h0;exact Pw cls A1 n1 c1 g o n c L k W h (by omega)
 ·exact Vq A1 n1 c1 g o n c L i W (by omega) hi2
theorem Gu (cls:List Int) (A1:Option Addr) (n1 c1 g o n c:Nat) (L i:Int) (W:World) (h:qI W g o n cls):
 Calls Tryz.prog 151 #[.agg #[.slice A1 n1 c1, .slice (some ⟨g,o,none⟩) n c, .int .i64 L], .int .i64 i] W (Gt (fZ cls i) W):=by
 have hgl:=h.blk;have hsm:=h.small;unfold fZ;rw[h.len];by_cases h0:i<0;·rw[au (.inl h0)];clear h;go_enter Tryz.func151,Tryz.ntmps151;go_wp2;go_ret;exact⟨rfl,(aK _ W).alloc (ay _) _⟩
 ·obtain⟨k,rfl⟩:=Co (Int.not_lt.1 h0);by_cases h1:(n:Int)<=(k:Int)
  ·rw[au (.inr h1)];clear h h0;have h2:¬k<n:=by omega
   go_enter Tryz.func151,Tryz.ntmps151;go_wp2;go_ret;exact⟨rfl,(aK _ W).alloc (ay _) _⟩
  ·rw[aj (by omega),mg];have hcell:=h.cell k (by omega);have h2:k<n:=by omega
   have h3:¬n<=k:=by omega
   obtain⟨x,hx⟩:∃x,cls.getD k 0=x:=⟨_,rfl⟩
   rw[hx]at hcell⊢;clear h h0 hx;go_enter Tryz.func151,Tryz.ntmps151;go_wp2;go_ret;exact⟨rfl,(aK _ W).alloc (ay _) _⟩
theorem aeN (cls:List Int) (A1:Option Addr) (n1 c1 g o n c:Nat) (L:Int) (i:Nat) (W:World) (h:qI W g o n cls) (hi:i<n):
 Calls Tryz.prog 152 #[.agg #[.slice A1 n1 c1, .slice (some ⟨g,o,none⟩) n c, .int .i64 L], .int .i64 i] W (Gt (BJ cls i) W):=by
 have hgl:=h.blk;have hsm:=h.small;have HC:=ah h;clear h;obtain⟨i1,hi1⟩:∃i1:Nat,i+1=i1:=⟨_,rfl⟩
 have hwi:wrap64 ((i:Int)+1)=(i1:Int):=by unfold wrap64;omega
 obtain⟨r,hr⟩:∃r,BJ cls i=r:=⟨_,rfl⟩
 rw[hr];have HR:=ah (show fZ cls (nU cls (n-i) i1)=r by rw[<-hr,<-hi1,<-HC.out.len];rfl);clear hr;go_enter Tryz.func152,Tryz.ntmps152;go_wp2;clear hwi;go_loopw [1] (λvi wr=>∃k f:Nat,k<=n/\n<k+f+1/\vi= .int .i64 (k:Int)/\fZ cls (nU cls f k)=r/\wr=W.alloc (.cells #[.slice A1 n1 c1, .slice (some ⟨g,o,none⟩) n c, .int .i64 L] 163)) (λvi _=>n-(RowKit.intOf vi).toNat);case atStart=>exact⟨i1,n-i,by omega,by omega,by first|rfl|(congr 1;omega),HR.out,rfl⟩
 case round=>
  obtain⟨k,f,hk,hf,rfl,hbk,rfl⟩:=hrel;have HB:=ah hbk;clear hbk;by_cases hlt:k<n
  ·have hcell:=HC.out.cell k hlt;obtain⟨f,rfl⟩:∃f',f=f'+1:=⟨f-1,by omega⟩
   obtain⟨x,hx⟩:∃x,cls.getD k 0=x:=⟨_,rfl⟩
   rw[hx]at hcell;have HX:=ah hx;clear hx;obtain⟨k1,hk1⟩:∃k1:Nat,k+1=k1:=⟨_,rfl⟩
   have hwj:wrap64 ((k:Int)+1)=(k1:Int):=by unfold wrap64;omega
   cases hh:bY x with
   |true=>go_wp2_with (go_at_call 148;refine(qH _ _).mono ?_;rintro e w1 ⟨rfl,rfl⟩;rw[hh]);refine⟨⟨k1,f,by omega,by omega,by first|rfl|(congr 1;omega),?_,by first|rfl|trivial⟩,by simp[RowKit.intOf]<;>omega⟩;rw[<-HB.out];show _=fZ cls ((if k<cls.length/\bY (cls.getD k 0)=true then nU cls f (k+1)else k:Nat):Int);rw[HX.out,HC.out.len,au ⟨hlt,hh⟩,hk1]
   |false=>
    have HQ:=ah (show fZ cls k=r by
     rw[<-HB.out];show _=fZ cls ((if k<cls.length/\bY (cls.getD k 0)=true then nU cls f (k+1)else k:Nat):Int);rw[HX.out,aj (λh=>by rw[hh]at h;exact oN h.2)])
    go_wp2_with (first
     |(go_at_call 148;refine(qH _ _).mono ?_;rintro e w1 ⟨rfl,rfl⟩;rw[hh])
     |(go_at_call 151;refine(Gu cls _ _ _ _ _ _ _ _ _ _ (HC.out.alloc _)).mono ?_;rintro e w1 ⟨rfl,hb⟩;have HB1:=ah hb;clear hb;rw[HQ.out]))
    go_ret;exact⟨rfl,((aK _ W).alloc (ay _) _).trans (HB1.out.mono (by simp))⟩
  ·obtain rfl:k=n:=by omega
   have HQ:=ah (show fZ cls k=r by
    rw[<-HB.out];cases f with
    |zero=>rfl
    |succ f=>show _=fZ cls ((if k<cls.length/\bY (cls.getD k 0)=true then nU cls f (k+1)else k:Nat):Int);rw[aj (λh=>by have:=HC.out.len;omega)])
   go_wp2_with (go_at_call 151;refine(Gu cls _ _ _ _ _ _ _ _ _ _ (HC.out.alloc _)).mono ?_;rintro e w1 ⟨rfl,hb⟩;have HB1:=ah hb;clear hb;rw[HQ.out]);go_ret;exact⟨rfl,((aK _ W).alloc (ay _) _).trans (HB1.out.mono (by simp))⟩
structure CW (W:World) (A1:Option Addr) (n1 c1 g o n c:Nat) (L:Int) (w:World):Prop where
 aN:Below W.heap.size W w
 b0:w.cell? ⟨W.heap.size,0,none⟩=some (.slice A1 n1 c1)
 b1:w.cell? ⟨W.heap.size,1,none⟩=some (.slice (some ⟨g,o,none⟩) n c)
 b2:w.cell? ⟨W.heap.size,2,none⟩=some (.int .i64 L)
theorem CW.size {W:World} {A1:Option Addr} {n1 c1 g o n c:Nat} {L:Int} {w:World} (h:CW W A1 n1 c1 g o n c L w):W.heap.size<w.heap.size:=aW h.b0
theorem CW.go {W:World} {A1:Option Addr} {n1 c1 g o n c:Nat} {L:Int} {w w':World} (h:CW W A1 n1 c1 g o n c L w) (hb:Below w.heap.size w w'):CW W A1 n1 c1 g o n c L w':=
 ⟨h.aN.trans (hb.mono h.aN.size),by rw[hb.cell h.size];exact h.b0,by rw[hb.cell h.size];exact h.b1,by rw[hb.cell h.size];exact h.b2⟩
theorem CW.drewN {W:World} {A1:Option Addr} {n1 c1 g o n c:Nat} {L:Int} {w:World} (h:CW W A1 n1 c1 g o n c L w) (q:Nat):CW W A1 n1 c1 g o n c L (w.drewN q):=
 ⟨⟨h.aN.os,h.aN.tape,h.aN.output,h.aN.size,h.aN.block⟩,h.b0,h.b1,h.b2⟩
theorem CW.new (W:World) (A1:Option Addr) (n1 c1 g o n c:Nat) (L:Int) (ty:TypeId):CW W A1 n1 c1 g o n c L (W.alloc (.cells #[.slice A1 n1 c1, .slice (some ⟨g,o,none⟩) n c, .int .i64 L] ty)):=by refine⟨(aK _ W).alloc (ay _) _,?_,?_,?_⟩;all_goals rw[fu _ _ _ _ _ _ (jl W _)];rfl
def uI (cls:List Int):Nat->Int->Nat
 |0,_=>0
 |f+1,x=>if fZ cls x=7 then uI cls f (dB cls x)+1 else 0
def Ns (cls:List Int) (i:Nat):Nat:=uI cls (i+1) (dB cls i)
theorem Px (cls:List Int):∀f x,uI cls f x<=f
 |0,_=>ay _
 |f+1,x=>by unfold uI;have:=Px cls f (dB cls x);split<;>omega
theorem K4 (cls:List Int) (A1:Option Addr) (n1 c1 g o n c:Nat) (L:Int) (i:Nat) (W:World) (h:qI W g o n cls) (hi:i<n):
 Calls Tryz.prog 153 #[.agg #[.slice A1 n1 c1, .slice (some ⟨g,o,none⟩) n c, .int .i64 L], .int .i64 i] W (Gt (Ns cls i) W):=by
 have hgl:=h.blk;have hsm:=h.small;have Xc:=ah (λ(w:World) (hb:Below W.heap.size W w)=>h.below hgl hb);clear h;obtain⟨R,hR⟩:∃R,Ns cls i=R:=⟨_,rfl⟩
 have hRL:R<=i+1:=by rw[<-hR];exact Px _ _ _
 rw[hR];have HR:=ah (show uI cls (i+1) (dB cls i)=R from hR);clear hR;have Vn:=ah (λk:Nat=>show dB cls k=cu cls k by unfold dB;rw[au (rQ k)];rfl);obtain⟨x0,hx0⟩:∃x0,dB cls i=x0:=⟨_,rfl⟩
 have hx1: -1<=x0/\x0<i:=by rw[<-hx0,Vn.out i];exact jN cls i
 obtain⟨hx1,hx2⟩:=hx1;rw[hx0]at HR;have HX0:=ah hx0;clear hx0;have HC0:=ah (CW.new W A1 n1 c1 g o n c L 163);go_enter Tryz.func153,Tryz.ntmps153;go_wp2_with (go_at_call 149;refine(Jc cls _ _ _ _ _ _ _ _ _ _ (Xc.out _ HC0.out.aN) (by omega) (by omega)).mono ?_;rintro e w1 ⟨rfl,hb⟩;have Xd:=ah (HC0.out.go hb);clear hb;rw[HX0.out]);go_loopw [1,5] (λvi vn wr=>∃(x:Int) (m f:Nat),vi= .int .i64 x/\vn= .int .i64 m∧-1<=x/\x<n/\x<f/\m+uI cls f x=R/\CW W A1 n1 c1 g o n c L wr) (λvi _ _=>(RowKit.intOf vi+1).toNat);case atStart=>exact⟨x0,0,i+1,rfl,rfl,hx1,by omega,by omega,by rw[HR.out,bI],Xd.out⟩
 case round=>
  obtain⟨x,m,f,rfl,rfl,hm1,hm2,hxf,Jd,hcw⟩:=hrel;have HW:=ah hcw;obtain⟨_,b0,b1,b2⟩:=hcw;obtain⟨y,hy⟩:∃y,fZ cls x=y:=⟨_,rfl⟩
  have HY:=ah hy;by_cases h7:y=7
  ·subst h7;have hx:0<=x:=by
    rcases Int.lt_or_le x 0 with c|c;·unfold fZ at hy;rw[au (.inl c)]at hy;cases hy
    ·exact c
   obtain⟨f',rfl⟩:∃f',f=f'+1:=⟨f-1,by omega⟩
   unfold uI at Jd;rw[au hy]at Jd;clear hy;obtain⟨k,rfl⟩:=Co hx;obtain⟨x',hx'⟩:∃x',dB cls k=x':=⟨_,rfl⟩
   have hx2: -1<=x'/\x'<k:=by rw[<-hx',Vn.out k];exact jN cls k
   obtain⟨hy1,hy2⟩:=hx2;rw[hx']at Jd;have hml:m+1<=100001:=by omega
   have ahS:=ah (show m+1+uI cls f' x'=R by omega);have HX':=ah hx';clear hx' hx Jd;go_wp2_with (first
    |(go_at_call 151;refine(Gu cls _ _ _ _ _ _ _ _ _ _ (Xc.out _ HW.out.aN)).mono ?_;rintro e w2 ⟨rfl,hb⟩;have HW2:=ah (HW.out.go hb);clear hb;rw[HY.out];obtain⟨_,d0,d1,d2⟩:=HW2.out)
    |(go_at_call 149;refine(Jc cls _ _ _ _ _ _ _ _ _ _ (Xc.out _ HW2.out.aN) (by omega) (by omega)).mono ?_;rintro e w3 ⟨rfl,hb⟩;have HW3:=ah (HW2.out.go hb);clear hb;rw[HX'.out]))
   go_roundw;case rel=>exact⟨x',m+1,f',rfl,by go_num,hy1,by omega,by omega,ahS.out,HW3.out⟩
   case measure=>simp[RowKit.intOf]<;>omega
  ·have h7b:(y==7)=false:=by simp[h7]
   have hmR:m=R:=by
    cases f with
    |zero=>exact Jd
    |succ f=>unfold uI at Jd;rw[aj (by rw[hy];exact h7)]at Jd;exact Jd
   have HMR:=ah hmR;clear hmR Jd;clear hy;go_wp2_with (go_at_call 151;refine(Gu cls _ _ _ _ _ _ _ _ _ _ (Xc.out _ HW.out.aN)).mono ?_;rintro e w2 ⟨rfl,hb⟩;have HW2:=ah (HW.out.go hb);clear hb;rw[HY.out]);go_ret;exact⟨by rw[HMR.out];rfl,HW2.out.aN⟩
def abO (x y:Int) (l:Bool) (r:Nat):Bool:=
 if(x==1&&y==2)=true then false else if(uH x||uH y)=true then true else if(x==5&&y==19)=true then false else if(x==18&&y==18)=true then false else if bY y=true then false else if l=true then false else !(y==7)||r%2==0
def EH (cls:List Int) (i:Nat):Bool:=abO (cls.getD (i-1) 0) (cls.getD i 0) (kD (fZ cls (dB cls (cu cls i))) (fZ cls (cu cls i)) (cls.getD i 0) (BJ cls i)) (Ns cls i)
def Yv (b:Bool) (W:World) (e:Ending) (w':World):Prop:=e= .returned (.bool b)/\Below W.heap.size W w'
theorem Yw (cls:List Int) (A1:Option Addr) (n1 c1 g o n c:Nat) (L:Int) (i:Nat) (W:World) (h:qI W g o n cls) (h1:1<=i) (hi:i<n):
 Calls Tryz.prog 101 #[.agg #[.slice A1 n1 c1, .slice (some ⟨g,o,none⟩) n c, .int .i64 L], .int .i64 i] W (Yv (EH cls i) W):=by
 have hgl:=h.blk;have hsm:=h.small;have HC:=ah h;have hc0:=h.cell (i-1) (by omega);have hc1:=h.cell i hi;obtain⟨x,hx⟩:∃x,cls.getD (i-1) 0=x:=⟨_,rfl⟩
 obtain⟨y,hy⟩:∃y,cls.getD i 0=y:=⟨_,rfl⟩
 rw[hx]at hc0;rw[hy]at hc1;obtain⟨z,hz⟩:∃z,EH cls i=z:=⟨_,rfl⟩
 rw[hz];unfold EH abO at hz;rw[hx,hy]at hz;obtain⟨R,hR⟩:∃R,Ns cls i=R:=⟨_,rfl⟩
 rw[hR]at hz;have HR:=ah hR;have HZ:=ah hz;clear hx hy h hz hR;go_enter Tryz.func101,Tryz.ntmps101;go_upto_region 1 with fail;go_cut [5,6] (λp q wx=>p= .int .i64 x/\q= .int .i64 y/\CW W A1 n1 c1 g o n c L wx);case first=>go_quiet (fail);go_wp2_with fail;go_meet;exact⟨rfl,rfl,(CW.new W A1 n1 c1 g o n c L _).drewN _⟩
 case rest=>
  obtain⟨rfl,rfl,hcw⟩:=hcut;have HW:=ah hcw;clear hcw hc0 hc1;obtain⟨bb,hbb⟩:∃bb,cu cls i=bb:=⟨_,rfl⟩
  have hbl:=jN cls i;rw[hbb]at hbl;obtain⟨als,alu⟩:=hbl;rw[hbb]at HZ;have HBB:=ah hbb;clear hbb;go_upto_region 2 with fail;go_cut [19] (λb wx=>b= .bool (x==1&&y==2)/\wc=wx);case first=>
   by_cases e1:x=1;·subst e1;go_wp2_with fail;go_meet;exact⟨by first|rfl|simp,rfl⟩
   ·have b1:(x==1)=false:=by simp[e1]
    go_wp2_with fail;go_meet;exact⟨by rw[b1];rfl,rfl⟩
  case rest=>
   obtain⟨rfl,rfl⟩:=hcut;obtain⟨t1,ht1⟩:∃q,(x==1&&y==2)=q:=⟨_,rfl⟩
   rw[ht1]at HZ⊢;clear ht1;cases t1;case true=>(go_wp2_with fail;go_ret;exact⟨by rw[<-HZ.out];rfl,HW.out.aN⟩)
   case false=>
    go_upto_region 4 with fail;go_cut [26] (λb wx=>b= .bool (uH x||uH y)/\wc=wx);case first=>
     cases h0:uH x;case false=>(go_wp2_with (go_at_call 147;refine(Pv _ _).mono ?_;rintro e w1 ⟨rfl,rfl⟩;try rw[h0]);go_meet;exact⟨by rw[h0];rfl,rfl⟩)
     case true=>(go_wp2_with (go_at_call 147;refine(Pv _ _).mono ?_;rintro e w1 ⟨rfl,rfl⟩;try rw[h0]);go_meet;exact⟨by rw[h0];rfl,rfl⟩)
    case rest=>
     obtain⟨rfl,rfl⟩:=hcut;obtain⟨t2,ht2⟩:∃q,(uH x||uH y)=q:=⟨_,rfl⟩
     rw[ht2]at HZ⊢;clear ht2;cases t2;case true=>(go_wp2_with fail;go_ret;exact⟨by rw[<-HZ.out];rfl,HW.out.aN⟩)
     case false=>
      go_upto_region 6 with fail;go_cut [33] (λb wx=>b= .bool (x==5&&y==19)/\wc=wx);case first=>
       by_cases e1:x=5;·subst e1;go_wp2_with fail;go_meet;exact⟨by first|rfl|simp,rfl⟩
       ·have b1:(x==5)=false:=by simp[e1]
        go_wp2_with fail;go_meet;exact⟨by rw[b1];rfl,rfl⟩
      case rest=>
       obtain⟨rfl,rfl⟩:=hcut;obtain⟨t3,ht3⟩:∃q,(x==5&&y==19)=q:=⟨_,rfl⟩
       rw[ht3]at HZ⊢;clear ht3;cases t3;case true=>(go_wp2_with fail;go_ret;exact⟨by rw[<-HZ.out];rfl,HW.out.aN⟩)
       case false=>
        go_upto_region 7 with fail;go_cut [33] (λb wx=>b= .bool (x==18&&y==18)/\wc=wx);case first=>
         by_cases e1:x=18;·subst e1;go_wp2_with fail;go_meet;exact⟨by first|rfl|simp,rfl⟩
         ·have b1:(x==18)=false:=by simp[e1]
          go_wp2_with fail;go_meet;exact⟨by rw[b1];rfl,rfl⟩
        case rest=>
         obtain⟨rfl,rfl⟩:=hcut;obtain⟨t4,ht4⟩:∃q,(x==18&&y==18)=q:=⟨_,rfl⟩
         rw[ht4]at HZ⊢;clear ht4;cases t4;case true=>(go_wp2_with fail;go_ret;exact⟨by rw[<-HZ.out];rfl,HW.out.aN⟩)
         case false=>
          cases h0:bY y;case true=>(go_wp2_with (go_at_call 148;refine(qH _ _).mono ?_;rintro e w1 ⟨rfl,rfl⟩;rw[h0]);go_ret;exact⟨by rw[<-HZ.out,h0];rfl,HW.out.aN⟩)
          case false=>
           obtain⟨_,b0,b1,b2⟩:=HW.out;go_wp2_with (first|(go_at_call 148;refine(qH _ _).mono ?_;rintro e w1 ⟨rfl,rfl⟩;rw[h0])|(go_at_call 149;refine(Pw cls _ _ _ _ _ _ _ _ i _ (HC.out.below hgl HW.out.aN) (iG hi)).mono ?_;rintro e w1 ⟨rfl,hb⟩;have HW1:=ah (HW.out.go hb);clear hb;rw[HBB.out]));go_cut [63] (λb wx=>b= .bool (kD (fZ cls (dB cls bb)) (fZ cls bb) y (BJ cls i))/\CW W A1 n1 c1 g o n c L wx);case first=>
            refine uD (C:=CW W A1 n1 c1 g o n c L) (by kernel_rfl) (by kernel_rfl) (HW1.out.drewN 1) ?_;refine lD (by kernel_rfl) (λK hK=> ?_);refine vW (.agg #[.slice A1 n1 c1, .slice (some ⟨g,o,none⟩) n c, .int .i64 L]) (λw hw=> ?_) (hK _ ?_);·obtain⟨_,d0,d1,d2⟩:=hw;go_simp
            clear hK K;(try simp only[Act.put]);(try simp only[bG]);(try simp only[aU]);(try simp only[aT]);refine lD (by kernel_rfl) (λK hK=> ?_);refine vW (.agg #[.slice A1 n1 c1, .slice (some ⟨g,o,none⟩) n c, .int .i64 L]) (λw hw=> ?_) (hK _ ?_);·obtain⟨_,d0,d1,d2⟩:=hw;go_simp
            clear hK K;(try simp only[Act.put]);(try simp only[bG]);(try simp only[aU]);(try simp only[aT]);refine lD (by kernel_rfl) (λK hK=> ?_);refine BigFrame.quiet_move _ rfl (hK _ ?_);clear hK K;(try simp only[Act.put]);(try simp only[bG]);(try simp only[aU]);(try simp only[aT]);refine lD (by kernel_rfl) (λK hK=> ?_);refine nT 149 #[.agg #[.slice A1 n1 c1, .slice (some ⟨g,o,none⟩) n c, .int .i64 L], .int .i64 bb] (.int .i64 (dB cls bb)) (λw hw=> ?_) (λw hw=> ?_) (hK _ ?_);·go_simp
            ·refine(Jc cls _ _ _ _ _ _ _ _ _ _ (HC.out.below hgl hw.aN) (by omega) (by omega)).mono ?_;rintro e w2 ⟨rfl,hb⟩;exact⟨rfl,hw.go hb⟩
            clear hK K;(try simp only[Act.put]);(try simp only[bG]);(try simp only[aU]);(try simp only[aT]);refine lD (by kernel_rfl) (λK hK=> ?_);refine nT 151 #[.agg #[.slice A1 n1 c1, .slice (some ⟨g,o,none⟩) n c, .int .i64 L], .int .i64 (dB cls bb)] (.int .i64 (fZ cls (dB cls bb))) (λw hw=> ?_) (λw hw=> ?_) (hK _ ?_);·go_simp
            ·refine(Gu cls _ _ _ _ _ _ _ _ _ _ (HC.out.below hgl hw.aN)).mono ?_;rintro e w2 ⟨rfl,hb⟩;exact⟨rfl,hw.go hb⟩
            clear hK K;(try simp only[Act.put]);(try simp only[bG]);(try simp only[aU]);(try simp only[aT]);refine lD (by kernel_rfl) (λK hK=> ?_);refine vW (.agg #[.slice A1 n1 c1, .slice (some ⟨g,o,none⟩) n c, .int .i64 L]) (λw hw=> ?_) (hK _ ?_);·obtain⟨_,d0,d1,d2⟩:=hw;go_simp
            clear hK K;(try simp only[Act.put]);(try simp only[bG]);(try simp only[aU]);(try simp only[aT]);refine lD (by kernel_rfl) (λK hK=> ?_);refine BigFrame.quiet_move _ rfl (hK _ ?_);clear hK K;(try simp only[Act.put]);(try simp only[bG]);(try simp only[aU]);(try simp only[aT]);refine lD (by kernel_rfl) (λK hK=> ?_);refine nT 151 #[.agg #[.slice A1 n1 c1, .slice (some ⟨g,o,none⟩) n c, .int .i64 L], .int .i64 bb] (.int .i64 (fZ cls bb)) (λw hw=> ?_) (λw hw=> ?_) (hK _ ?_);·go_simp
            ·refine(Gu cls _ _ _ _ _ _ _ _ _ _ (HC.out.below hgl hw.aN)).mono ?_;rintro e w2 ⟨rfl,hb⟩;exact⟨rfl,hw.go hb⟩
            clear hK K;(try simp only[Act.put]);(try simp only[bG]);(try simp only[aU]);(try simp only[aT]);refine lD (by kernel_rfl) (λK hK=> ?_);refine BigFrame.quiet_move _ rfl (hK _ ?_);clear hK K;(try simp only[Act.put]);(try simp only[bG]);(try simp only[aU]);(try simp only[aT]);refine lD (by kernel_rfl) (λK hK=> ?_);refine vW (.agg #[.slice A1 n1 c1, .slice (some ⟨g,o,none⟩) n c, .int .i64 L]) (λw hw=> ?_) (hK _ ?_);·obtain⟨_,d0,d1,d2⟩:=hw;go_simp
            clear hK K;(try simp only[Act.put]);(try simp only[bG]);(try simp only[aU]);(try simp only[aT]);refine lD (by kernel_rfl) (λK hK=> ?_);refine BigFrame.quiet_move _ rfl (hK _ ?_);clear hK K;(try simp only[Act.put]);(try simp only[bG]);(try simp only[aU]);(try simp only[aT]);refine lD (by kernel_rfl) (λK hK=> ?_);refine nT 152 #[.agg #[.slice A1 n1 c1, .slice (some ⟨g,o,none⟩) n c, .int .i64 L], .int .i64 i] (.int .i64 (BJ cls i)) (λw hw=> ?_) (λw hw=> ?_) (hK _ ?_);·go_simp
            ·refine(aeN cls _ _ _ _ _ _ _ _ i _ (HC.out.below hgl hw.aN) hi).mono ?_;rintro e w2 ⟨rfl,hb⟩;exact⟨rfl,hw.go hb⟩
            clear hK K;(try simp only[Act.put]);(try simp only[bG]);(try simp only[aU]);(try simp only[aT]);refine lD (by kernel_rfl) (λK hK=> ?_);refine nT 150 #[.int .i64 (fZ cls (dB cls bb)), .int .i64 (fZ cls bb), .int .i64 y, .int .i64 (BJ cls i)] (.bool (kD (fZ cls (dB cls bb)) (fZ cls bb) y (BJ cls i))) (λw hw=> ?_) (λw hw=> ?_) (hK _ ?_);·go_simp
            ·refine(rV _ _ _ _ _).mono ?_;rintro e w2 ⟨rfl,rfl⟩;exact⟨rfl,hw⟩
            clear hK K;(try simp only[Act.put]);(try simp only[bG]);(try simp only[aU]);(try simp only[aT]);refine wpQuiet_nil ?_;intro w' hw';go_wp2_with fail;go_meet;exact⟨rfl,hw'⟩
           case rest=>
            obtain⟨rfl,hcw⟩:=hcut;rw[h0]at HZ;obtain⟨t5,ht5⟩:∃q,kD (fZ cls (dB cls bb)) (fZ cls bb) y (BJ cls i)=q:=⟨_,rfl⟩
            rw[ht5]at HZ⊢;clear ht5;have HW2:=ah hcw;clear b0 b1 b2 HW HW1;obtain⟨_,d0,d1,d2⟩:=hcw;cases t5;case true=>(go_wp2_with fail;go_ret;exact⟨by rw[<-HZ.out];rfl,HW2.out.aN⟩)
            case false=>
             by_cases e7:y=7;·subst e7;go_wp2_with (go_at_call 153;refine(K4 cls _ _ _ _ _ _ _ _ i _ (HC.out.below hgl HW2.out.aN) hi).mono ?_;rintro e w3 ⟨rfl,hb⟩;rw[HR.out];have HW3:=ah (HW2.out.go hb);clear hb);go_ret;exact⟨by rw[<-HZ.out];show Ending.returned (.bool ((R:Int)%2==0))=Ending.returned (.bool (R%2==0));congr 2;rw[dY,cZ,cZ];omega,HW3.out.aN⟩
             ·have b7:(y==7)=false:=by simp[e7]
              go_wp2_with fail;go_ret;exact⟨by rw[<-HZ.out];rw[b7];rfl,HW2.out.aN⟩
section
open Folds (dec bn bL)
structure SL (w1:World) (s:ByteArray) (L:Int) (e m1 m2:Nat) (x1 x2 v1 v2:Value) (ats cls:List Int) (w:World):Prop where
 aN:Below w1.heap.size w1 w
 it:w.heap[w1.heap.size+1]? =some (.stringIter s e)
 blk:w.heap[w1.heap.size]? =some (.cells #[x1,x2, .int .i64 L] 163 (0,0))
 o1:w.ownsRow w1.heap.size 3 1 v1 m1 (dF ats)
 o2:w.ownsRow w1.heap.size 3 1 v2 m2 (dF cls)
 ap:∀k,v1.ownBlock=some k->v2.ownBlock=some k->False
section
variable {w1 w w':World} {s:ByteArray} {L:Int} {e m1 m2:Nat} {x1 x2 v1 v2:Value} {ats cls:List Int}
theorem SL.below (h:SL w1 s L e m1 m2 x1 x2 v1 v2 ats cls w) (hb:Below w.heap.size w w'):SL w1 s L e m1 m2 x1 x2 v1 v2 ats cls w':=
 ⟨h.aN.trans (hb.mono h.aN.size),iZ hb h.it,iZ hb h.blk,own_below hb h.o1,own_below hb h.o2,h.ap⟩
theorem SL.alloc (h:SL w1 s L e m1 m2 x1 x2 v1 v2 ats cls w) (o:Obj):SL w1 s L e m1 m2 x1 x2 v1 v2 ats cls (w.alloc o):=h.below ((aK _ w).alloc (ay _) o)
theorem SL.kE (h:SL w1 s L e m1 m2 x1 x2 v1 v2 ats cls w) {o:Obj}:(w.alloc o).ownsRow w1.heap.size 3 1 v1 m1 (dF ats):=(h.alloc o).o1
theorem SL.Nt (h:SL w1 s L e m1 m2 x1 x2 v1 v2 ats cls w) {o:Obj}:(w.alloc o).ownsRow w1.heap.size 3 1 v2 m2 (dF cls):=(h.alloc o).o2
theorem SL.drew (h:SL w1 s L e m1 m2 x1 x2 v1 v2 ats cls w):SL w1 s L e m1 m2 x1 x2 v1 v2 ats cls w.drew:=⟨⟨h.aN.os,h.aN.tape,h.aN.output,h.aN.size,h.aN.block⟩,h.it,h.blk,h.o1,h.o2,h.ap⟩
theorem SL.iter (h:SL w1 s L e m1 m2 x1 x2 v1 v2 ats cls w) (e':Nat):SL w1 s L e' m1 m2 x1 x2 v1 v2 ats cls (w.iterAt (w1.heap.size+1) s e'):=
 ⟨below_iterAt h.aN (Nat.le_succ _) s e',iterAt_heap w _ s e e' h.it,(iterAt_other w _ _ s e' (Nat.ne_of_lt (ow _))).trans h.blk,own_iterAt h.it h.o1,own_iterAt h.it h.o2,h.ap⟩
theorem SL.box (h:SL w1 s L e m1 m2 x1 x2 v1 v2 ats cls w):w.cell? ⟨w1.heap.size,0,none⟩=some x1/\w.cell? ⟨w1.heap.size,1,none⟩=some x2/\w.cell? ⟨w1.heap.size,2,none⟩=some (.int .i64 L)/\(∀j,w.frozen? ⟨w1.heap.size,j,none⟩=false)/\w1.heap.size<w.heap.size:=
 ⟨by rw[fu _ _ _ _ _ _ h.blk];rfl,by rw[fu _ _ _ _ _ _ h.blk];rfl,by rw[fu _ _ _ _ _ _ h.blk];rfl,λj=>frozen_of_row _ _ _ _ _ h.blk,eH h.blk⟩
theorem own_ne {g:Nat} {base:Nat} {v:Value} {n:Nat} {xs:List Value} {o:Obj} (h:w.ownsRow base 3 1 v n xs) (hg:w.heap[g]? =some o) (ho:∀cur,o≠.cells cur 3 (0,0)):some g≠v.ownBlock:=by intro hk;obtain⟨_,_,cur,hcur⟩:=dO h hk.symm;rw[hg]at hcur;exact ho cur (bW hcur)
theorem SL.aeO (h:SL w1 s L e m1 m2 x1 x2 v1 v2 ats cls w) {o:Obj} {v':Value} {x:Int} (ho:w'.ownsRow w1.heap.size 3 1 v' (m1+1) (dF ats++[.int .i64 x])) (hg:(w.alloc o).grownBy w' v1.ownBlock) (hn:v'.ownBlock=v1.ownBlock\/v'.ownBlock=some (w.alloc o).heap.size):
 SL w1 s L e (m1+1) m2 x1 x2 v' v2 (ats++[x]) cls w':=by
 have h':=h.alloc o;refine⟨h'.aN.grown hg h'.aN.size (λk hk=>(dO h'.o1 hk).1),?_,?_,by rw[qD];exact ho,?_,?_⟩;·rw[hg.block _ (eH h'.it) (own_ne h'.o1 h'.it (λ_ h=>by cases h))];exact h'.it
 ·rw[hg.block _ (eH h'.blk) (own_ne h'.o1 h'.blk (λ_ h=>by injection h with _ h;exact absurd h (by decide)))];exact h'.blk
 ·exact(Fr.grown (T:=λk=>v1.ownBlock=some k) hg (λk hk _=>hk)).own h'.o2 (λk hk hk2=>h.ap k hk2 hk)
 ·intro k hk hk2;rcases hn with hn|hn
  ·rw[hn]at hk;exact h.ap k hk hk2
  ·rw[hn]at hk;have:=(dO h'.o2 hk2).2.1;injection hk with hk;omega
theorem SL.Vr (h:SL w1 s L e m1 m2 x1 x2 v1 v2 ats cls w) {o:Obj} {v':Value} {x:Int} (ho:w'.ownsRow w1.heap.size 3 1 v' (m2+1) (dF cls++[.int .i64 x])) (hg:(w.alloc o).grownBy w' v2.ownBlock) (hn:v'.ownBlock=v2.ownBlock\/v'.ownBlock=some (w.alloc o).heap.size):
 SL w1 s L e m1 (m2+1) x1 x2 v1 v' ats (cls++[x]) w':=by
 have h':=h.alloc o;refine⟨h'.aN.grown hg h'.aN.size (λk hk=>(dO h'.o2 hk).1),?_,?_,?_,by rw[qD];exact ho,?_⟩;·rw[hg.block _ (eH h'.it) (own_ne h'.o2 h'.it (λ_ h=>by cases h))];exact h'.it
 ·rw[hg.block _ (eH h'.blk) (own_ne h'.o2 h'.blk (λ_ h=>by injection h with _ h;exact absurd h (by decide)))];exact h'.blk
 ·exact(Fr.grown (T:=λk=>v2.ownBlock=some k) hg (λk hk _=>hk)).own h'.o1 (λk hk hk2=>h.ap k hk hk2)
 ·intro k hk hk2;rcases hn with hn|hn
  ·rw[hn]at hk2;exact h.ap k hk hk2
  ·rw[hn]at hk2;have:=(dO h'.o1 hk).2.1;injection hk2 with hk2;omega
theorem SL.set1 (h:SL w1 s L e m1 m2 x1 x2 v1 v2 ats cls w) (u:Value):SL w1 s L e m1 m2 u x2 v1 v2 ats cls (w.setCell ⟨w1.heap.size,0,none⟩ u):=by refine⟨h.aN.setCell (ay _) u,(Below.heap_setCell w _ u _ (Nat.succ_ne_self _)).trans h.it,vS w _ 0 _ _ u h.blk,ownsRow_setCell_other h.o1 (own_ne h.o1 h.blk (λ_ h=>by injection h with _ h;exact absurd h (by decide))).symm u,ownsRow_setCell_other h.o2 (own_ne h.o2 h.blk (λ_ h=>by injection h with _ h;exact absurd h (by decide))).symm u,h.ap⟩
theorem SL.set2 (h:SL w1 s L e m1 m2 x1 x2 v1 v2 ats cls w) (u:Value):SL w1 s L e m1 m2 x1 u v1 v2 ats cls (w.setCell ⟨w1.heap.size,1,none⟩ u):=by refine⟨h.aN.setCell (ay _) u,(Below.heap_setCell w _ u _ (Nat.succ_ne_self _)).trans h.it,vS w _ 1 _ _ u h.blk,ownsRow_setCell_other h.o1 (own_ne h.o1 h.blk (λ_ h=>by injection h with _ h;exact absurd h (by decide))).symm u,ownsRow_setCell_other h.o2 (own_ne h.o2 h.blk (λ_ h=>by injection h with _ h;exact absurd h (by decide))).symm u,h.ap⟩
end
theorem kF {w:World} {base n c:Nat} {A:Option Addr} {zs:List Int} (h:w.ownsRow base 3 1 (.slice A n c) n (dF zs)) (hn:n<=100000):dx w A n zs:=by
 refine⟨by have:=h.1;simpa[dF]using this,hn,λh0=> ?_⟩;obtain⟨g,rfl⟩:=uz h h0;refine⟨g,0,rfl,(dO h rfl).2.1,λj hj=> ?_⟩;have hl:zs.length=n:=by have:=h.1;simpa[dF]using this
 have hx:=yZ (g:=g) h rfl j (.int .i64 (zs.getD j 0)) (by
  unfold dF;rw[fq,aS (by omega),aG,aS (by omega)];rfl)
 rw[<-iQ];exact hx
noncomputable def aeP (c:Option Code):ByteArray:=match c with
 |some (Code.seq _ (Code.seq (Code.region _ ops _) _))=>match ops[0]? with
  |some o=>match o.op with
   |Op.call c=>match c.args[0]? with
    |some (Operand.const (Value.string s))=>s
    |_=>⟨#[]⟩
   |_=>⟨#[]⟩
  |none=>⟨#[]⟩
 |_=>⟨#[]⟩
noncomputable def wm:ByteArray:=aeP Tryz.f100.body
def Vs (w:World):Prop:=Calls Tryz.prog 95 #[.string wm] w λe w'=>∃d x y,e= .returned (.tuple #[d,x,y])/\KI w' d gF/\Below w.heap.size w w'
theorem Bo:Ez gF=true:=by decide+kernel
def jR (t:List UInt8):List Int:=(marks t).map λx=>(x.1:Int)
def K5 (t:List UInt8):List Int:=(marks t).map λx=>dQ gF (eF (x.2:Int))
theorem EI (t:List UInt8):(marks t).length<=t.length:=by have:=vV t t.length 0 (aL _);unfold marks;omega
def Rp (t:List UInt8) (W:World) (e:Ending) (w':World):Prop:=∃A1 m c1 A2 c2,m<=10000/\e= .returned (.agg #[.slice A1 m c1, .slice A2 m c2, .int .i64 t.length])/\dx w' A1 m (jR t)/\dx w' A2 m (K5 t)/\Below W.heap.size W w'
theorem ahU {m e n:Nat} (h1:m<=e) (h2:e<=n) (h3:n<=10000):m+1<=maxLen/\(m+1)*8<=0x800000000000:=⟨by simp only[maxLen];omega,by omega⟩
theorem Vt (t:List UInt8) (W:World) (hN:∀w,Below W.heap.size W w->Vs w) (hn:t.length<=10000):Calls Tryz.prog 100 #[.string ⟨t.toArray⟩] W (Rp t W):=by
 obtain⟨s,hs⟩:∃s:ByteArray,(⟨t.toArray⟩:ByteArray)=s:=⟨_,rfl⟩
 have hss:s.size=t.length:=size_mk t s hs;rw[hs];have HS:=ah hs;have BI:=ah hss;have HN:=ah hN;have HLT:=ah hn;clear hs hss hN hn;obtain⟨i0,hI0,hz0,hz1,hz2⟩:=gW lY;go_enter Tryz.func100,Tryz.ntmps100;go_wp2_with (go_at_call 95;refine(HN.out _ ((aK _ W).alloc (ay _) _)).mono ?_;rintro e w1 ⟨d,x,y,rfl,hd,hb⟩;have HD:=ah hd;have HB:=ah hb;clear hd hb);go_loopw [] (λwr=>∃(e f m:Nat) (A1:Option Addr) (c1:Nat) (A2:Option Addr) (c2:Nat) (ats cls:List Int),SL w1 s (s.size:Int) e m m (.slice A1 m c1) (.slice A2 m c2) (.slice A1 m c1) (.slice A2 m c2) ats cls wr/\e<=s.size/\s.size<f+e+1/\m<=e/\ats++(aJ t f e).map (λx=>(x.1:Int))=jR t/\cls++(aJ t f e).map (λx=>dQ gF (eF (x.2:Int)))=K5 t) (λwr=>s.size-wr.iterPos (w1.heap.size+1));case atStart=>
  refine⟨0,t.length,0,none,0,none,0,[],[],⟨?_,?_,?_,⟨rfl, .inl ⟨rfl,rfl⟩⟩,⟨rfl, .inl ⟨rfl,rfl⟩⟩,λ_ h=>by cases h⟩,aL _,by have:=BI.out;omega,ay _,rfl,rfl⟩;·exact((aK _ w1).alloc (ay _) _).alloc (by simp) _
  ·have:=jl (w1.alloc (.cells #[.slice none 0 0, .slice none 0 0, .int .i64 (s.size:Int)] 163)) (.stringIter s 0);rw[Eo]at this;exact this
  ·exact(Below.heap_alloc _ _ _ (by simp)).trans (jl _ _)
 case round=>
  obtain⟨e,f,m,A1,c1,A2,c2,ats,cls,hSL,he,hf,hm,hla,hlc⟩:=hrel;have hit:=hSL.it;have HSL:=ah hSL;by_cases hlt:e<s.size
  ·clear hSL;obtain⟨f',rfl⟩:∃f',f=f'+1:=⟨f-1,by omega⟩
   have hlt2:e<t.length:=by have:=BI.out;omega
   unfold aJ at hla hlc;rw[au hlt2,jD]at hla hlc;dsimp only at hla hlc;have hnx:=λty=>run_next_any_at (P:=Tryz.prog) wr _ s e ty hit hlt;rw[lV t e s HS.out]at hnx;have hne2:t.drop e≠[]:=by intro c;rw[rP]at c;have:=BI.out;omega
   have hd1:=bn (t.drop e);have hd2:=bL (t.drop e) hne2;rw[gP,<-BI.out]at hd2;obtain⟨r,hr⟩:∃r:Int,((dec (t.drop e)).1:Int)=r:=⟨_,rfl⟩
   obtain⟨wd,hwd⟩:∃wd,(dec (t.drop e)).2=wd:=⟨_,rfl⟩
   rw[hwd]at hd1 hd2 hla hlc;rw[hr]at hlc;rw[hr,hwd]at hnx;obtain⟨ew,Rk⟩:∃ew,e+wd=ew:=⟨_,rfl⟩
   rw[Rk]at hnx hla hlc;obtain⟨cx,hcx⟩:∃cx,dQ gF (eF r)=cx:=⟨_,rfl⟩
   rw[hcx]at hlc;have HCX:=ah hcx;have HLA:=ah hla;have HLC:=ah hlc;clear hla hlc hlt2;have HLEN:=ah (ahU hm he (by rw[BI.out];exact HLT.out));have HSI:=ah (HSL.out.iter ew);obtain⟨j0,j1,j2,j3,j4⟩:=HSI.out.box;have j3':=j3 0;have hq2:wr.iterPos (w1.heap.size+1)=e:=by unfold World.iterPos;rw[hit]
   have KEY:=ah (λ(B1:Option Addr) (d1:Nat) (B2:Option Addr) (d2:Nat) (w':World) (h:SL w1 s (s.size:Int) ew (m+1) (m+1) (.slice B1 (m+1) d1) (.slice B2 (m+1) d2) (.slice B1 (m+1) d1) (.slice B2 (m+1) d2) (ats++[(e:Int)]) (cls++[cx]) w')=>
    show(∃(e f m:Nat) (A1:Option Addr) (c1:Nat) (A2:Option Addr) (c2:Nat) (ats cls:List Int),SL w1 s (s.size:Int) e m m (.slice A1 m c1) (.slice A2 m c2) (.slice A1 m c1) (.slice A2 m c2) ats cls w'/\e<=s.size/\s.size<f+e+1/\m<=e/\ats++(aJ t f e).map (λx=>(x.1:Int))=jR t/\cls++(aJ t f e).map (λx=>dQ gF (eF (x.2:Int)))=K5 t)/\s.size-w'.iterPos (w1.heap.size+1)<s.size-wr.iterPos (w1.heap.size+1)from by
     refine⟨⟨ew,f',m+1,B1,d1,B2,d2,_,_,h,by omega,by omega,by omega,by rw[iL];exact HLA.out,by rw[iL];exact HLC.out⟩,?_⟩;have q1:w'.iterPos (w1.heap.size+1)=ew:=by unfold World.iterPos;rw[h.it]
     rw[q1,hq2];omega)
   clear hr hwd Rk hcx j3 hd1 hd2 hne2 hf hm he hq2;go_wp2_with (at_builtin;refine eD _ rfl (.tmp 24) (.tmp 26) 41 rfl w1.heap.size 3 i0 _ 8 Tryz.underlying41 hI0 hz0 hz1 hz2 rfl (.slice A1 m c1) m (dF ats) rfl HSI.out.kE _ 1 1 [.int .i64 e] rfl (gX _ _ _) (by simp[Value.oneCell']) HLEN.out.1 HLEN.out.2 (by rw[World.size_alloc];have:=HSI.out.aN.size;omega) ?_;intro v' wp ho hg hn;obtain⟨B1,d1,rfl,_⟩:=bA ho;have Fe:=Lib.hid (HSI.out.aeO ho hg hn);clear ho hg hn hnx j0 j1 j2 j3' j4 hit;obtain⟨p0,p1,p2,p3,p4⟩:=Fe.out.box;have p3':=p3 0;clear p3);have Yx:=ah (Fe.out.set1 (.slice B1 (m+1) d1)).drew;clear p0 p1 p2 p3' p4;refine wp_region_any (by kernel_rfl) ?_;change wpAny _ _ _ _ _ _ _ (World.drew _);obtain⟨wq,hwq⟩:∃wq,(wp.setCell ⟨w1.heap.size,0,none⟩ (.slice B1 (m+1) d1)).drew=wq:=⟨_,rfl⟩
   rw[hwq]at Yx⊢;clear hwq;obtain⟨y0,y1,y2,y3,y4⟩:=Yx.out.box;clear y3;refine bU (i:=0) (v:= ?_) rfl (by kernel_rfl) (by kernel_rfl) (by kernel_rfl) (λ_ _ _ h=>h) (Or.inl ⟨by kernel_rfl,?_⟩) ?_;rotate_left;·intro w;go_simp;try with_reducible rfl
   (try simp only[Act.put]);(try simp only[bG]);(try simp only[aU]);(try simp only[aT]);refine bU (i:=2) (v:= ?_) rfl (by kernel_rfl) (by kernel_rfl) (by kernel_rfl) (λ_ _ _ h=>h) (Or.inl ⟨by kernel_rfl,?_⟩) ?_;rotate_left;·intro w;go_simp;try with_reducible rfl
   (try simp only[Act.put]);(try simp only[bG]);(try simp only[aU]);(try simp only[aT]);refine bU (i:=3) (v:= ?_) rfl (by kernel_rfl) (by kernel_rfl) (by kernel_rfl) (λ_ _ _ h=>h) (Or.inl ⟨by kernel_rfl,?_⟩) ?_;rotate_left;·intro w;go_simp;try with_reducible rfl
   (try simp only[Act.put]);(try simp only[bG]);(try simp only[aU]);(try simp only[aT]);refine eB (rs:=[1,4]) (by kernel_rfl) (by simp) ?_;refine dw rfl (λK hK=> ?_) ?_
   ·go_simp;refine hK _ _ ?_;clear hK K;refine eB (rs:=[4]) (by kernel_rfl) (by simp) ?_;refine dw rfl (λK hK=> ?_) ?_
    ·go_simp;refine(EA gF Bo r _ _ rfl (by decide+kernel) _ (lC HD.out Yx.out.aN)).mono ?_;rintro x wz ⟨rfl,hbz⟩;rw[HCX.out];have Sg:=ah (Yx.out.below hbz);clear hbz;obtain⟨z0,z1,z2,z3,z4⟩:=Sg.out.box;dsimp only;refine hK _ _ ?_;clear hK K;refine eB (rs:=[5]) (by kernel_rfl) (by simp) ?_;refine dw rfl (λK hK=> ?_) ?_
     ·go_simp;refine hK _ _ ?_;clear hK K;refine eB (rs:=[6]) (by kernel_rfl) (by simp) ?_;refine dw rfl (λK hK=> ?_) ?_
      ·skip;refine I8 _ (.tmp 30) (.tmp 34) 41 rfl w1.heap.size 3 i0 _ 8 Tryz.underlying41 hI0 hz0 hz1 hz2 rfl (.slice A2 m c2) m (dF cls) rfl Sg.out.Nt (some ⟨wz.heap.size,0,none⟩) 1 1 [.int .i64 cx] rfl (gX _ _ _) (by simp[Value.oneCell']) HLEN.out.1 HLEN.out.2 (by rw[World.size_alloc];have:=Sg.out.aN.size;omega) ?_;intro v' wq ho hg hn;obtain⟨B2,d2,rfl,_⟩:=bA ho;have HSR:=ah (Sg.out.Vr ho hg hn);clear ho hg hn;obtain⟨q0,q1,q2,q3,q4⟩:=HSR.out.box;have q3':=q3 1;clear q3;refine hK _ _ ?_;clear hK K;refine bU (i:=7) (v:= ?_) rfl (by kernel_rfl) (by kernel_rfl) (by kernel_rfl) (λ_ _ _ h=>h) (Or.inl ⟨by kernel_rfl,?_⟩) ?_;rotate_left
       ·intro w;go_simp;try with_reducible rfl
       (try simp only[Act.put]);(try simp only[bG]);(try simp only[aU]);(try simp only[aT]);refine eB (rs:=[8]) (by kernel_rfl) (by simp) ?_;refine dw rfl (λK hK=> ?_) ?_;·go_simp;refine hK _ _ ?_;clear hK K;refine wpAny_done (by kernel_rfl) ?_ _;go_wp2_with fail;exact KEY.out _ _ _ _ _ (HSR.out.set2 _)
       exact eu
      exact eu
     exact eu
    exact eu
   refine dw rfl (λK hK=> ?_) ?_
   ·go_simp;refine(EA gF Bo r _ _ rfl (by decide+kernel) _ (lC HD.out Yx.out.aN)).mono ?_;rintro x wz ⟨rfl,hbz⟩;rw[HCX.out];have Sg:=ah (Yx.out.below hbz);clear hbz;obtain⟨z0,z1,z2,z3,z4⟩:=Sg.out.box;dsimp only;refine hK _ _ ?_;clear hK K;refine eB (rs:=[1,5]) (by kernel_rfl) (by simp) ?_;refine dw rfl (λK hK=> ?_) ?_
    ·go_simp;refine hK _ _ ?_;clear hK K;refine eB (rs:=[5]) (by kernel_rfl) (by simp) ?_;refine dw rfl (λK hK=> ?_) ?_
     ·go_simp;refine hK _ _ ?_;clear hK K;refine eB (rs:=[6]) (by kernel_rfl) (by simp) ?_;refine dw rfl (λK hK=> ?_) ?_
      ·skip;refine I8 _ (.tmp 30) (.tmp 34) 41 rfl w1.heap.size 3 i0 _ 8 Tryz.underlying41 hI0 hz0 hz1 hz2 rfl (.slice A2 m c2) m (dF cls) rfl Sg.out.Nt (some ⟨wz.heap.size,0,none⟩) 1 1 [.int .i64 cx] rfl (gX _ _ _) (by simp[Value.oneCell']) HLEN.out.1 HLEN.out.2 (by rw[World.size_alloc];have:=Sg.out.aN.size;omega) ?_;intro v' wq ho hg hn;obtain⟨B2,d2,rfl,_⟩:=bA ho;have HSR:=ah (Sg.out.Vr ho hg hn);clear ho hg hn;obtain⟨q0,q1,q2,q3,q4⟩:=HSR.out.box;have q3':=q3 1;clear q3;refine hK _ _ ?_;clear hK K;refine bU (i:=7) (v:= ?_) rfl (by kernel_rfl) (by kernel_rfl) (by kernel_rfl) (λ_ _ _ h=>h) (Or.inl ⟨by kernel_rfl,?_⟩) ?_;rotate_left
       ·intro w;go_simp;try with_reducible rfl
       (try simp only[Act.put]);(try simp only[bG]);(try simp only[aU]);(try simp only[aT]);refine eB (rs:=[8]) (by kernel_rfl) (by simp) ?_;refine dw rfl (λK hK=> ?_) ?_;·go_simp;refine hK _ _ ?_;clear hK K;refine wpAny_done (by kernel_rfl) ?_ _;go_wp2_with fail;exact KEY.out _ _ _ _ _ (HSR.out.set2 _)
       exact eu
      exact eu
     exact eu
    refine dw rfl (λK hK=> ?_) ?_
    ·go_simp;refine hK _ _ ?_;clear hK K;refine eB (rs:=[1]) (by kernel_rfl) (by simp) ?_;refine dw rfl (λK hK=> ?_) ?_
     ·go_simp;refine hK _ _ ?_;clear hK K;refine eB (rs:=[6]) (by kernel_rfl) (by simp) ?_;refine dw rfl (λK hK=> ?_) ?_
      ·skip;refine I8 _ (.tmp 30) (.tmp 34) 41 rfl w1.heap.size 3 i0 _ 8 Tryz.underlying41 hI0 hz0 hz1 hz2 rfl (.slice A2 m c2) m (dF cls) rfl Sg.out.Nt (some ⟨wz.heap.size,0,none⟩) 1 1 [.int .i64 cx] rfl (gX _ _ _) (by simp[Value.oneCell']) HLEN.out.1 HLEN.out.2 (by rw[World.size_alloc];have:=Sg.out.aN.size;omega) ?_;intro v' wq ho hg hn;obtain⟨B2,d2,rfl,_⟩:=bA ho;have HSR:=ah (Sg.out.Vr ho hg hn);clear ho hg hn;obtain⟨q0,q1,q2,q3,q4⟩:=HSR.out.box;have q3':=q3 1;clear q3;refine hK _ _ ?_;clear hK K;refine bU (i:=7) (v:= ?_) rfl (by kernel_rfl) (by kernel_rfl) (by kernel_rfl) (λ_ _ _ h=>h) (Or.inl ⟨by kernel_rfl,?_⟩) ?_;rotate_left
       ·intro w;go_simp;try with_reducible rfl
       (try simp only[Act.put]);(try simp only[bG]);(try simp only[aU]);(try simp only[aT]);refine eB (rs:=[8]) (by kernel_rfl) (by simp) ?_;refine dw rfl (λK hK=> ?_) ?_;·go_simp;refine hK _ _ ?_;clear hK K;refine wpAny_done (by kernel_rfl) ?_ _;go_wp2_with fail;exact KEY.out _ _ _ _ _ (HSR.out.set2 _)
       exact eu
      exact eu
     exact eu
    exact eu
   exact eu
  ·obtain rfl:e=s.size:=by omega
   have hz:aJ t f s.size=[]:=by
    cases f with
    |zero=>rfl
    |succ f=>unfold aJ;rw[aj (by have:=BI.out;omega)]
   rw[hz,List.map_nil,ji]at hla hlc;subst hla;subst hlc;clear hz;obtain⟨j0,j1,j2,j3,j4⟩:=hSL.box;have hW1:W.heap.size<w1.heap.size:=by have:=HB.out.size;rw[Eo]at this;omega
   have hblk:wr.heap[W.heap.size]? =some (.cells #[.slice none 0 0, .slice none 0 0, .int .i64 0] 163 (0,0)):=(hSL.aN.block _ hW1).trans ((HB.out.block _ (by simp)).trans (jl W _));have r0:=fu wr W.heap.size 0 _ _ _ hblk;have r1:=fu wr W.heap.size 1 _ _ _ hblk;have r2:=fu wr W.heap.size 2 _ _ _ hblk;have f0:=frozen_of_row wr W.heap.size 0 _ _ hblk;have f1:=frozen_of_row wr W.heap.size 1 _ _ hblk;have f2:=frozen_of_row wr W.heap.size 2 _ _ hblk;have h3:=eH hblk;have hnx:=λty=>run_next_end_at (P:=Tryz.prog) wr _ s s.size ty hit hlt;have HBW:=ah (HB.out.trans (hSL.aN.mono HB.out.size));have ahV:=ah hblk;have HM:=ah hm;clear j3 hblk hSL hf he hm hlt;go_wp2_with fail;have hh:=vS _ _ 2 _ _ (.int .i64 (s.size:Int)) (vS _ _ 1 _ _ (.slice A2 m c2) (vS wr _ 0 _ _ (.slice A1 m c1) ahV.out));refine rX (results_cell_row rfl _ _ W.heap.size _ _ _ _ rfl hh Tryz.underlying163 rfl (by kernel_rfl)) rfl ?_;have hmm:m<=100000:=by have:=HM.out;have:=BI.out;have:=HLT.out;omega
   refine⟨A1,m,c1,A2,c2,by have:=HM.out;have:=BI.out;have:=HLT.out;omega,by rw[<-BI.out];rfl,kF (base:=w1.heap.size) (c:=c1) ?_ hmm,kF (base:=w1.heap.size) (c:=c2) ?_ hmm,?_⟩;·exact vR (vR (vR HSL.out.o1 hW1 _) hW1 _) hW1 _
   ·exact vR (vR (vR HSL.out.o2 hW1 _) hW1 _) hW1 _
   ·have hb0:Below W.heap.size W w1:=((aK _ W).alloc (ay _) _).trans (HB.out.mono (by simp));have hb1:Below W.heap.size W wr:=hb0.trans (HSL.out.aN.mono (iG hW1));exact((hb1.setCell (ay _) _).setCell (ay _) _).setCell (ay _) _
end
structure BL (w1:World) (x1 x2:Value) (L:Int) (v:Value) (m:Nat) (zs:List Int) (w:World):Prop where
 aN:Below w1.heap.size w1 w
 blk:w.heap[w1.heap.size]? =some (.cells #[x1,x2, .int .i64 L] 163 (0,0))
 own:w.ownsRow w1.heap.size 3 1 v m (dF zs)
section
variable {w1 w w':World} {x1 x2 v:Value} {L:Int} {m:Nat} {zs:List Int}
theorem BL.below (h:BL w1 x1 x2 L v m zs w) (hb:Below w.heap.size w w'):BL w1 x1 x2 L v m zs w':=
 ⟨h.aN.trans (hb.mono h.aN.size),iZ hb h.blk,own_below hb h.own⟩
theorem BL.kE (h:BL w1 x1 x2 L v m zs w) {o:Obj}:(w.alloc o).ownsRow w1.heap.size 3 1 v m (dF zs):=dX h.own
theorem BL.box (h:BL w1 x1 x2 L v m zs w):w.cell? ⟨w1.heap.size,0,none⟩=some x1/\w.cell? ⟨w1.heap.size,1,none⟩=some x2/\w.cell? ⟨w1.heap.size,2,none⟩=some (.int .i64 L)/\w1.heap.size<w.heap.size:=
 ⟨by rw[fu _ _ _ _ _ _ h.blk];rfl,by rw[fu _ _ _ _ _ _ h.blk];rfl,by rw[fu _ _ _ _ _ _ h.blk];rfl,eH h.blk⟩
theorem BL.grow (h:BL w1 x1 x2 L v m zs w) {o:Obj} {v':Value} {x:Int} (ho:w'.ownsRow w1.heap.size 3 1 v' (m+1) (dF zs++[.int .i64 x])) (hg:(w.alloc o).grownBy w' v.ownBlock):BL w1 x1 x2 L v' (m+1) (zs++[x]) w':=by have h':=h.below ((aK _ w).alloc (ay _) o);refine⟨h'.aN.grown hg h'.aN.size (λk hk=>(dO h'.own hk).1),?_,by rw[qD];exact ho⟩;rw[hg.block _ (eH h'.blk) (own_ne h'.own h'.blk (λ_ h=>by injection h with _ h;exact absurd h (by decide)))];exact h'.blk
end
theorem aeQ {m e n:Nat} (h1:m<=e) (h2:e<=n) (h3:n<=100000):m+1<=maxLen/\(m+1)*8<=0x800000000000:=⟨by simp only[maxLen];omega,by omega⟩
def BK (cls ats:List Int):Nat->Nat->List Int
 |0,_=>[]
 |f+1,k=>if k=0\/EH cls k=true then ats.getD k 0::BK cls ats f (k+1)else BK cls ats f (k+1)
def fC (t:List UInt8):List Int:=BK (K5 t) (jR t) (marks t).length 0++if 0<t.length then[(t.length:Int)]else[]
def o7 (t:List UInt8) (W:World) (e:Ending) (w':World):Prop:=∃A n c,e= .returned (.slice A n c)/\dx w' A n (fC t)/\(∀a,A=some a->W.heap.size<=a.block)/\Below W.heap.size W w'
theorem Nu (t:List UInt8) (W:World) (hN:∀w,Below W.heap.size W w->Vs w) (hn:t.length<=10000):Calls Tryz.prog 52 #[.string ⟨t.toArray⟩] W (o7 t W):=by
 have HSC:=ah (Vt t W hN hn);obtain⟨s,hs⟩:∃s:ByteArray,(⟨t.toArray⟩:ByteArray)=s:=⟨_,rfl⟩
 have hss:s.size<=10000:=by rw[size_mk t s hs];exact hn
 rw[hs]at HSC⊢;have BI:=ah hss;have HSL:=ah (size_mk t s hs);clear hs hss hN hn;obtain⟨i0,hI0,hz0,hz1,hz2⟩:=gW lY;go_enter Tryz.func52,Tryz.ntmps52;go_wp2_with (go_at_call 100;refine HSC.out.mono ?_;rintro e w1 ⟨A1,m,c1,A2,c2,hm4,rfl,h1,h2,hb⟩;have H1:=ah h1;have H2:=ah h2;have HB:=ah hb;clear h1 h2 hb);obtain⟨ats,abR⟩:∃l,jR t=l:=⟨_,rfl⟩
 obtain⟨cls,hcls⟩:∃l,K5 t=l:=⟨_,rfl⟩
 obtain⟨Z,hZ⟩:∃Z,BK cls ats m 0=Z:=⟨_,rfl⟩
 have hml:(marks t).length=m:=by rw[<-H1.out.len];unfold jR;rw[bM]
 have HWB:=ah (show fC t=Z++if 0<t.length then[(t.length:Int)]else[]by unfold fC;rw[abR,hcls,hml,hZ]);rw[abR]at H1;rw[hcls]at H2;have HZ:=ah hZ;clear abR hcls hZ hml;obtain⟨L,hL⟩:∃L:Int,(t.length:Int)=L:=⟨_,rfl⟩
 rw[hL];clear hL;have hsm:=H1.out.small;go_loopw [12,4] (λvi vo wr=>∃(k mo f:Nat) (Ao:Option Addr) (co:Nat) (zs:List Int),k+f=m/\zs++BK cls ats f k=Z/\vi= .int .i64 k/\vo= .slice Ao mo co/\mo<=k/\BL w1 (.slice A1 m c1) (.slice A2 m c2) L (.slice Ao mo co) mo zs wr) (λvi _ _=>m-(RowKit.intOf vi).toNat);case atStart=>exact⟨0,0,m,none,0,[],bI _,HZ.out,rfl,rfl,ay _,(aK _ w1).alloc (ay _) _,jl w1 _,⟨rfl, .inl ⟨rfl,rfl⟩⟩⟩
 case round=>
  obtain⟨k,mo,f,Ao,co,zs,hkf,hzz,rfl,rfl,hmo,hBL⟩:=hrel;have hk:k<=m:=by omega
  have xU:=ah hBL;clear hBL;by_cases hlt:k<m
  ·obtain⟨g1,o1,rfl,hg1,hc1⟩:=H1.out.at_ (by omega);obtain⟨g2,o2,rfl,hg2,hc2⟩:=H2.out.at_ (by omega);have ca:wr.cell? ⟨g1,o1+k,none⟩=some (.int .i64 (ats.getD k 0)):=(xU.out.aN.cell (p:=⟨g1,o1+k,none⟩) hg1).trans (hc1 k hlt);obtain⟨a,ha⟩:∃a,ats.getD k 0=a:=⟨_,rfl⟩
   rw[ha]at ca;obtain⟨f',rfl⟩:∃f',f=f'+1:=⟨f-1,by omega⟩
   unfold BK at hzz;rw[ha]at hzz;have Xc:=ah (qI.below ⟨H2.out.len,H2.out.small,hg2,hc2⟩ hg2 xU.out.aN);clear ha hc1 hc2 hg1 hg2;obtain⟨b0,b1,b2,b3⟩:=xU.out.box;have HLEN:=ah (aeQ hmo hk hsm);obtain⟨k',hk'⟩:∃k',k+1=k':=⟨_,rfl⟩
   have hwk:(k:Int)+1=(k':Int):=by omega
   have Fg:=ah hwk;clear hwk;have KEY:=ah (λ(mo':Nat) (Ao':Option Addr) (co':Nat) (zs':List Int) (w':World) (hz':zs'++BK cls ats f' k'=Z) (h1:mo'<=k') (h:BL w1 (.slice (some ⟨g1,o1,none⟩) m c1) (.slice (some ⟨g2,o2,none⟩) m c2) L (.slice Ao' mo' co') mo' zs' w')=>
    show(∃(k mo f:Nat) (Ao:Option Addr) (co:Nat) (zs:List Int),k+f=m/\zs++BK cls ats f k=Z/\Value.int .i64 (k':Int)= .int .i64 k/\Value.slice Ao' mo' co'= .slice Ao mo co/\mo<=k/\BL w1 (.slice (some ⟨g1,o1,none⟩) m c1) (.slice (some ⟨g2,o2,none⟩) m c2) L (.slice Ao mo co) mo zs w')/\m-(RowKit.intOf (.int .i64 (k':Int))).toNat<m-(RowKit.intOf (.int .i64 (k:Int))).toNat from
     ⟨⟨k',mo',f',Ao',co',zs',by omega,hz',rfl,rfl,h1,h⟩,by simp[RowKit.intOf];omega⟩)
   rw[hk']at hzz;have hmk:mo+1<=k':=by omega
   have aeS:mo<=k':=by omega
   have HMK:=ah (And.intro hmk aeS);clear hmk aeS hmo hk hk' hkf;rcases jG k with h0|h0
   ·rw[au (Or.inl h0)]at hzz;have HZZ:=ah (show(zs++[a])++BK cls ats f' k'=Z by rw[iL];exact hzz);clear hzz;have hk0:((k:Int)==0)=true:=by simp[h0]
    have hk1:(k:Int)=0:=by omega
    have HK1:=ah hk1;clear hk1 h0;go_wp2_with (at_builtin;refine eD _ rfl (.tmp 24) (.tmp 26) 41 rfl w1.heap.size 3 i0 _ 8 Tryz.underlying41 hI0 hz0 hz1 hz2 rfl (.slice Ao mo co) mo (dF zs) rfl xU.out.kE _ 1 1 [.int .i64 a] rfl (gX _ _ _) (by simp[Value.oneCell']) HLEN.out.1 HLEN.out.2 (by rw[World.size_alloc];have:=xU.out.aN.size;omega) ?_;intro v' wp ho hg hn;obtain⟨B1,d1,rfl,_⟩:=bA ho;have HBG:=Lib.hid (xU.out.grow ho hg);clear ho hg hn ca b0 b1 b2 b3);rw[Fg.out];exact KEY.out _ _ _ _ _ HZZ.out HMK.out.1 HBG.out
   ·have HZZ:=ah hzz;clear hzz;have hk0:((k:Int)==0)=false:=by simp;omega
    have hk1:¬(k:Int)=0:=by omega
    go_wp2_with (first|(go_at_call 101;refine(Yw cls _ _ _ _ _ _ _ _ k _ Xc.out h0 hlt).mono ?_;rintro e w2 ⟨rfl,hb⟩;have xU:=Lib.hid (xU.out.below hb);clear hb;cases hcb:EH cls k<;>(have HCB:=Lib.hid hcb;clear hcb))|(at_builtin;refine eD _ rfl (.tmp 24) (.tmp 26) 41 rfl w1.heap.size 3 i0 _ 8 Tryz.underlying41 hI0 hz0 hz1 hz2 rfl (.slice Ao mo co) mo (dF zs) rfl xU.out.kE _ 1 1 [.int .i64 a] rfl (gX _ _ _) (by simp[Value.oneCell']) HLEN.out.1 HLEN.out.2 (by rw[World.size_alloc];have:=xU.out.aN.size;omega) ?_;intro v' wp ho hg hn;obtain⟨B1,d1,rfl,_⟩:=bA ho;have HBG:=Lib.hid (xU.out.grow ho hg);clear ho hg hn ca b0 b1 b2 b3));·rw[Fg.out];exact KEY.out _ _ _ _ _ (by have:=HZZ.out;rwa [aj (λh=>h.elim (λh=>by omega) (λh=>by rw[HCB.out]at h;exact oN h))]at this) HMK.out.2 xU.out
    ·rw[Fg.out];exact KEY.out _ _ _ _ _ (by have:=HZZ.out;rw[au (Or.inr HCB.out)]at this;rw[iL];exact this) HMK.out.1 HBG.out
  ·obtain rfl:k=m:=by omega
   obtain rfl:f=0:=by omega
   have hzZ:zs=Z:=by rw[<-hzz];exact(ji zs).symm
   subst hzZ;clear hzz;have HLEN:=ah (aeQ hmo hk hsm);have HMO:=ah (show mo+1<=100000 by omega);have aeU:=ah (λ(A:Option Addr) (n c:Nat) (z:List Int) (w':World) (hn:n<=100000) (hz:z=fC t) (h:BL w1 (.slice A1 k c1) (.slice A2 k c2) L (.slice A n c) n z w')=>
    show o7 t W (.returned (.slice A n c)) w' from
     ⟨A,n,c,rfl,hz▸kF h.own hn,λa ha=>by subst ha;exact bF HB.out.size (dO h.own rfl).1,HB.out.trans (h.aN.mono HB.out.size)⟩)
   clear hk hlt hmo hsm hm4;by_cases hs0:0<s.size;·go_wp2_with (at_builtin;refine eD _ rfl (.tmp 32) (.tmp 35) 41 rfl w1.heap.size 3 i0 _ 8 Tryz.underlying41 hI0 hz0 hz1 hz2 rfl (.slice Ao mo co) mo (dF zs) rfl xU.out.kE _ 1 1 [.int .i64 s.size] rfl (gX _ _ _) (by simp[Value.oneCell']) HLEN.out.1 HLEN.out.2 (by rw[World.size_alloc];have:=xU.out.aN.size;omega) ?_;intro v' wp ho hg hn;obtain⟨B1,d1,rfl,_⟩:=bA ho;have HBG:=Lib.hid (xU.out.grow ho hg);clear ho hg hn);go_ret;exact aeU.out _ _ _ _ _ HMO.out (by rw[HWB.out,au (by rw[<-HSL.out];exact hs0),HSL.out]) HBG.out
   ·skip;go_wp2_with fail;go_ret;exact aeU.out _ _ _ _ _ (Nat.le_of_succ_le HMO.out) (by rw[HWB.out,aj (by rw[<-HSL.out];exact hs0),ji]) xU.out
