/- SearchReplaces, walked: word.Bounds, exactly. -/
import Derived.Deep.DeepCutAuto
import Derived.Test.YtocaiijbhepnnaaGreatDoorFC
import Derived.Test.YtocaiijbhepnnaaGreatDoorFI
set_option maxRecDepth 100000
set_option maxHeartbeats 8000000
namespace Go.Proofs.YtocaiijbhepnnaaGreatDoor.searchReplaces
open Go.Shelf Go.RowKit Go.Lib Go.Proofs.YtocaiijbhepnnaaGreatDoor.Am
def wu (c:Int):Bool:=c==3||c==1||c==2
def dx (c:Int):Bool:=c==4||c==6||c==5
def sQ (c:Int):Bool:=c==10||c==9
def NZ (c:Int):Bool:=c==14||c==13||c==11
def N7 (c:Int):Bool:=c==15||c==13||c==11
def yV (c:Int):Bool:=sQ c||c==16||c==8
def Br (b:Bool) (W:World) (e:Ending) (w':World):Prop:=e= .returned (.bool b)/\w'=W
theorem Tx (c:Int) (W:World):Calls Tryz.prog 147 #[.int .i64 c] W (Br (wu c) W):=by
 unfold wu;by_cases h1:c=3;·subst h1;go_enter Tryz.func147,Tryz.ntmps147;go_wp2;go_ret;exact⟨rfl,rfl⟩
 ·by_cases h2:c=1
  ·subst h2;go_enter Tryz.func147,Tryz.ntmps147;go_wp2;go_ret;exact⟨rfl,rfl⟩
  ·go_enter Tryz.func147,Tryz.ntmps147;go_wp2;go_ret;exact⟨by first|rfl|simp[h1,h2],rfl⟩
theorem sS (c:Int) (W:World):Calls Tryz.prog 148 #[.int .i64 c] W (Br (dx c) W):=by
 unfold dx;by_cases h1:c=4;·subst h1;go_enter Tryz.func148,Tryz.ntmps148;go_wp2;go_ret;exact⟨rfl,rfl⟩
 ·by_cases h2:c=6
  ·subst h2;go_enter Tryz.func148,Tryz.ntmps148;go_wp2;go_ret;exact⟨rfl,rfl⟩
  ·go_enter Tryz.func148,Tryz.ntmps148;go_wp2;go_ret;exact⟨by first|rfl|simp[h1,h2],rfl⟩
theorem dJ (c:Int) (W:World):Calls Tryz.prog 215 #[.int .i64 c] W (Br (sQ c) W):=by
 unfold sQ;by_cases h1:c=10;·subst h1;go_enter Tryz.func215,Tryz.ntmps215;go_wp2;go_ret;exact⟨rfl,rfl⟩
 ·go_enter Tryz.func215,Tryz.ntmps215;go_wp2;go_ret;exact⟨by first|rfl|simp[h1],rfl⟩
theorem yh (c:Int) (W:World):Calls Tryz.prog 216 #[.int .i64 c] W (Br (NZ c) W):=by
 unfold NZ;by_cases h1:c=14;·subst h1;go_enter Tryz.func216,Tryz.ntmps216;go_wp2;go_ret;exact⟨rfl,rfl⟩
 ·by_cases h2:c=13
  ·subst h2;go_enter Tryz.func216,Tryz.ntmps216;go_wp2;go_ret;exact⟨rfl,rfl⟩
  ·go_enter Tryz.func216,Tryz.ntmps216;go_wp2;go_ret;exact⟨by first|rfl|simp[h1,h2],rfl⟩
theorem rz (c:Int) (W:World):Calls Tryz.prog 217 #[.int .i64 c] W (Br (N7 c) W):=by
 unfold N7;by_cases h1:c=15;·subst h1;go_enter Tryz.func217,Tryz.ntmps217;go_wp2;go_ret;exact⟨rfl,rfl⟩
 ·by_cases h2:c=13
  ·subst h2;go_enter Tryz.func217,Tryz.ntmps217;go_wp2;go_ret;exact⟨rfl,rfl⟩
  ·go_enter Tryz.func217,Tryz.ntmps217;go_wp2;go_ret;exact⟨by first|rfl|simp[h1,h2],rfl⟩
theorem ji (c:Int) (W:World):Calls Tryz.prog 218 #[.int .i64 c] W (Br (yV c) W):=by
 unfold yV;cases h:sQ c with
 |true=>go_enter Tryz.func218,Tryz.ntmps218;go_wp2_with (go_at_call 215;refine(dJ c _).mono ?_;rintro e w1 ⟨rfl,rfl⟩;rw[h]);go_ret;exact⟨rfl,rfl⟩
 |false=>
  by_cases h1:c=16;·subst h1;go_enter Tryz.func218,Tryz.ntmps218;go_wp2_with (go_at_call 215;refine(dJ 16 _).mono ?_;rintro e w1 ⟨rfl,rfl⟩;rw[h]);go_ret;exact⟨rfl,rfl⟩
  ·go_enter Tryz.func218,Tryz.ntmps218;go_wp2_with (go_at_call 215;refine(dJ c _).mono ?_;rintro e w1 ⟨rfl,rfl⟩;rw[h]);go_ret;exact⟨by first|rfl|simp[h1],rfl⟩
def l1F (a q:Int):Bool:=sQ a&&sQ q
def l2F (a q n:Int):Bool:=sQ a&&NZ q&&sQ n
def l3F (z a q:Int):Bool:=sQ z&&NZ a&&sQ q
def h1F (a q:Int):Bool:=a==9&&q==11
def h2F (a q n:Int):Bool:=a==9&&q==12&&n==9
def h3F (z a q:Int):Bool:=z==9&&a==12&&q==9
def d1F (a q:Int):Bool:=a==16&&(q==16||sQ q)
def d2F (a q:Int):Bool:=sQ a&&q==16
def n1F (z a q:Int):Bool:=z==16&&N7 a&&q==16
def n2F (a q n:Int):Bool:=a==16&&N7 q&&n==16
def VG (a q:Int):Bool:=a==8&&q==8||(yV a||a==17)&&q==17||a==17&&yV q
def mF (z a q n:Int):Bool:=l1F a q||l2F a q n||l3F z a q||h1F a q||h2F a q n||h3F z a q||d1F a q||d2F a q||n1F z a q||n2F a q n||VG a q
theorem uE (z a q n:Int) (W:World):Calls Tryz.prog 150 #[.int .i64 z, .int .i64 a, .int .i64 q, .int .i64 n] W (Br (mF z a q n) W):=by
 unfold mF;go_enter Tryz.func150,Tryz.ntmps150;go_upto_region 1 with fail;go_cut [9] (λc wx=>c= .bool (l1F a q)/\W=wx);case first=>
  cases h0:sQ a;case false=>go_wp2_with (go_at_call 215;refine(dJ _ _).mono ?_;rintro e w1 ⟨rfl,rfl⟩;try rw[h0]);go_meet;exact⟨by unfold l1F;rw[h0];rfl,rfl⟩
  case true=>go_wp2_with (go_at_call 215;refine(dJ _ _).mono ?_;rintro e w1 ⟨rfl,rfl⟩;try rw[h0]);go_meet;exact⟨by unfold l1F;rw[h0];rfl,rfl⟩
 case rest=>
  obtain⟨rfl,rfl⟩:=hcut;cases e1:l1F a q;case true=>go_wp2_with fail;go_ret;exact⟨by simp[e1],rfl⟩
  case false=>
   have E1:=ah e1;clear e1;go_upto_region 2 with fail;go_cut [9] (λc wx=>c= .bool (l2F a q n)/\W=wx);case first=>
    cases h1:sQ a;case false=>go_wp2_with (go_at_call 215;refine(dJ _ _).mono ?_;rintro e w1 ⟨rfl,rfl⟩;try rw[h1]);go_meet;exact⟨by unfold l2F;rw[h1];rfl,rfl⟩
    case true=>
     cases h2:NZ q;case false=>go_wp2_with (first|(go_at_call 216;refine(yh _ _).mono ?_;rintro e w1 ⟨rfl,rfl⟩;try rw[h2])|(go_at_call 215;refine(dJ _ _).mono ?_;rintro e w1 ⟨rfl,rfl⟩;try rw[h1]));go_meet;exact⟨by unfold l2F;rw[h1,h2];rfl,rfl⟩
     case true=>go_wp2_with (first|(go_at_call 216;refine(yh _ _).mono ?_;rintro e w1 ⟨rfl,rfl⟩;try rw[h2])|(go_at_call 215;refine(dJ _ _).mono ?_;rintro e w1 ⟨rfl,rfl⟩;try rw[h1]));go_meet;exact⟨by unfold l2F;rw[h1,h2];rfl,rfl⟩
   case rest=>
    obtain⟨rfl,rfl⟩:=hcut;cases e2:l2F a q n;case true=>go_wp2_with fail;go_ret;exact⟨by simp[e2],rfl⟩
    case false=>
     have E2:=ah e2;clear e2;go_upto_region 3 with fail;go_cut [9] (λc wx=>c= .bool (l3F z a q)/\W=wx);case first=>
      cases h3:sQ z;case false=>go_wp2_with (go_at_call 215;refine(dJ _ _).mono ?_;rintro e w1 ⟨rfl,rfl⟩;try rw[h3]);go_meet;exact⟨by unfold l3F;rw[h3];rfl,rfl⟩
      case true=>
       cases h4:NZ a;case false=>go_wp2_with (first|(go_at_call 216;refine(yh _ _).mono ?_;rintro e w1 ⟨rfl,rfl⟩;try rw[h4])|(go_at_call 215;refine(dJ _ _).mono ?_;rintro e w1 ⟨rfl,rfl⟩;try rw[h3]));go_meet;exact⟨by unfold l3F;rw[h3,h4];rfl,rfl⟩
       case true=>go_wp2_with (first|(go_at_call 216;refine(yh _ _).mono ?_;rintro e w1 ⟨rfl,rfl⟩;try rw[h4])|(go_at_call 215;refine(dJ _ _).mono ?_;rintro e w1 ⟨rfl,rfl⟩;try rw[h3]));go_meet;exact⟨by unfold l3F;rw[h3,h4];rfl,rfl⟩
     case rest=>
      obtain⟨rfl,rfl⟩:=hcut;cases e3:l3F z a q;case true=>go_wp2_with fail;go_ret;exact⟨by simp[e3],rfl⟩
      case false=>
       have E3:=ah e3;clear e3;go_upto_region 5 with fail;go_cut [36] (λc wx=>c= .bool (h1F a q)/\W=wx);case first=>
        by_cases h5:a=9;·subst h5;go_wp2_with fail;go_meet;exact⟨by unfold h1F;rfl,rfl⟩
        ·have b5:(a==9)=false:=by simp[h5]
         go_wp2_with fail;go_meet;exact⟨by unfold h1F;rw[b5];rfl,rfl⟩
       case rest=>
        obtain⟨rfl,rfl⟩:=hcut;cases e5:h1F a q;case true=>go_wp2_with fail;go_ret;exact⟨by simp[e5],rfl⟩
        case false=>
         have E5:=ah e5;clear e5;go_upto_region 6 with fail;go_cut [36] (λc wx=>c= .bool (h2F a q n)/\W=wx);case first=>
          by_cases h6:a=9
          ·subst h6;by_cases h7:q=12
           ·subst h7;go_wp2_with fail;go_meet;exact⟨by unfold h2F;rfl,rfl⟩
           ·have b7:(q==12)=false:=by simp[h7]
            go_wp2_with fail;go_meet;exact⟨by unfold h2F;rw[b7];rfl,rfl⟩
          ·have b6:(a==9)=false:=by simp[h6]
           go_wp2_with fail;go_meet;exact⟨by unfold h2F;rw[b6];rfl,rfl⟩
         case rest=>
          obtain⟨rfl,rfl⟩:=hcut;cases e6:h2F a q n;case true=>go_wp2_with fail;go_ret;exact⟨by simp[e6],rfl⟩
          case false=>
           have E6:=ah e6;clear e6;go_upto_region 7 with fail;go_cut [36] (λc wx=>c= .bool (h3F z a q)/\W=wx);case first=>
            by_cases h8:z=9
            ·subst h8;by_cases h9:a=12
             ·subst h9;go_wp2_with fail;go_meet;exact⟨by unfold h3F;rfl,rfl⟩
             ·have b9:(a==12)=false:=by simp[h9]
              go_wp2_with fail;go_meet;exact⟨by unfold h3F;rw[b9];rfl,rfl⟩
            ·have b8:(z==9)=false:=by simp[h8]
             go_wp2_with fail;go_meet;exact⟨by unfold h3F;rw[b8];rfl,rfl⟩
           case rest=>
            obtain⟨rfl,rfl⟩:=hcut;cases e7:h3F z a q;case true=>go_wp2_with fail;go_ret;exact⟨by simp[e7],rfl⟩
            case false=>
             have E7:=ah e7;clear e7;go_upto_region 9 with fail;go_cut [63] (λc wx=>c= .bool (d1F a q)/\W=wx);case first=>
              by_cases h10:a=16
              ·subst h10;by_cases h11:q=16
               ·subst h11;go_wp2_with fail;go_meet;exact⟨by unfold d1F;rfl,rfl⟩
               ·have b11:(q==16)=false:=by simp[h11]
                go_wp2_with (go_at_call 215;refine(dJ _ _).mono ?_;rintro e w1 ⟨rfl,rfl⟩);go_meet;exact⟨by unfold d1F;rw[b11];rfl,rfl⟩
              ·have b10:(a==16)=false:=by simp[h10]
               go_wp2_with fail;go_meet;exact⟨by unfold d1F;rw[b10];rfl,rfl⟩
             case rest=>
              obtain⟨rfl,rfl⟩:=hcut;cases e9:d1F a q;case true=>go_wp2_with fail;go_ret;exact⟨by simp[e9],rfl⟩
              case false=>
               have E9:=ah e9;clear e9;go_upto_region 10 with fail;go_cut [63] (λc wx=>c= .bool (d2F a q)/\W=wx);case first=>
                cases h12:sQ a;case false=>go_wp2_with (go_at_call 215;refine(dJ _ _).mono ?_;rintro e w1 ⟨rfl,rfl⟩;try rw[h12]);go_meet;exact⟨by unfold d2F;rw[h12];rfl,rfl⟩
                case true=>go_wp2_with (go_at_call 215;refine(dJ _ _).mono ?_;rintro e w1 ⟨rfl,rfl⟩;try rw[h12]);go_meet;exact⟨by unfold d2F;rw[h12];rfl,rfl⟩
               case rest=>
                obtain⟨rfl,rfl⟩:=hcut;cases e10:d2F a q;case true=>go_wp2_with fail;go_ret;exact⟨by simp[e10],rfl⟩
                case false=>
                 have E10:=ah e10;clear e10;go_upto_region 12 with fail;go_cut [80] (λc wx=>c= .bool (n1F z a q)/\W=wx);case first=>
                  by_cases h13:z=16
                  ·subst h13;cases h14:N7 a;case false=>go_wp2_with (go_at_call 217;refine(rz _ _).mono ?_;rintro e w1 ⟨rfl,rfl⟩;try rw[h14]);go_meet;exact⟨by unfold n1F;rw[h14];rfl,rfl⟩
                   case true=>go_wp2_with (go_at_call 217;refine(rz _ _).mono ?_;rintro e w1 ⟨rfl,rfl⟩;try rw[h14]);go_meet;exact⟨by unfold n1F;rw[h14];rfl,rfl⟩
                  ·have b13:(z==16)=false:=by simp[h13]
                   go_wp2_with fail;go_meet;exact⟨by unfold n1F;rw[b13];rfl,rfl⟩
                 case rest=>
                  obtain⟨rfl,rfl⟩:=hcut;cases e12:n1F z a q;case true=>go_wp2_with fail;go_ret;exact⟨by simp[e12],rfl⟩
                  case false=>
                   have E12:=ah e12;clear e12;go_upto_region 13 with fail;go_cut [80] (λc wx=>c= .bool (n2F a q n)/\W=wx);case first=>
                    by_cases h15:a=16
                    ·subst h15;cases h16:N7 q;case false=>go_wp2_with (go_at_call 217;refine(rz _ _).mono ?_;rintro e w1 ⟨rfl,rfl⟩;try rw[h16]);go_meet;exact⟨by unfold n2F;rw[h16];rfl,rfl⟩
                     case true=>go_wp2_with (go_at_call 217;refine(rz _ _).mono ?_;rintro e w1 ⟨rfl,rfl⟩;try rw[h16]);go_meet;exact⟨by unfold n2F;rw[h16];rfl,rfl⟩
                    ·have b15:(a==16)=false:=by simp[h15]
                     go_wp2_with fail;go_meet;exact⟨by unfold n2F;rw[b15];rfl,rfl⟩
                   case rest=>
                    obtain⟨rfl,rfl⟩:=hcut;cases e13:n2F a q n;case true=>go_wp2_with fail;go_ret;exact⟨by simp[e13],rfl⟩
                    case false=>
                     have E13:=ah e13;clear e13;go_upto_region 15 with fail;by_cases h17:a=8
                     ·subst h17;by_cases h18:q=8
                      ·subst h18;go_wp2_with fail;go_ret;exact⟨by unfold VG;rw[E1.out,E2.out,E3.out,E5.out,E6.out,E7.out,E9.out,E10.out,E12.out,E13.out];rfl,rfl⟩
                      ·have b18:(q==8)=false:=by simp[h18]
                       cases h19:yV 8;case false=>go_wp2_with (go_at_call 218;refine(ji _ _).mono ?_;rintro e w1 ⟨rfl,rfl⟩;try rw[h19]);go_ret;exact⟨by unfold VG;rw[E1.out,E2.out,E3.out,E5.out,E6.out,E7.out,E9.out,E10.out,E12.out,E13.out,b18,h19];rfl,rfl⟩
                       case true=>
                        by_cases h21:q=17;·subst h21;go_wp2_with (go_at_call 218;refine(ji _ _).mono ?_;rintro e w1 ⟨rfl,rfl⟩;try rw[h19]);go_ret;exact⟨by unfold VG;rw[E1.out,E2.out,E3.out,E5.out,E6.out,E7.out,E9.out,E10.out,E12.out,E13.out,b18,h19];rfl,rfl⟩
                        ·have b21:(q==17)=false:=by simp[h21]
                         go_wp2_with (go_at_call 218;refine(ji _ _).mono ?_;rintro e w1 ⟨rfl,rfl⟩;try rw[h19]);go_ret;exact⟨by unfold VG;rw[E1.out,E2.out,E3.out,E5.out,E6.out,E7.out,E9.out,E10.out,E12.out,E13.out,b18,h19,b21];rfl,rfl⟩
                     ·have b17:(a==8)=false:=by simp[h17]
                      cases h23:yV a;case false=>
                       by_cases h24:a=17
                       ·subst h24;by_cases h25:q=17
                        ·subst h25;go_wp2_with (go_at_call 218;refine(ji _ _).mono ?_;rintro e w1 ⟨rfl,rfl⟩;try rw[h23]);go_ret;exact⟨by unfold VG;rw[E1.out,E2.out,E3.out,E5.out,E6.out,E7.out,E9.out,E10.out,E12.out,E13.out,b17,h23];rfl,rfl⟩
                        ·have b25:(q==17)=false:=by simp[h25]
                         go_wp2_with (go_at_call 218;refine(ji _ _).mono ?_;rintro e w1 ⟨rfl,rfl⟩;try rw[h23]);go_ret;exact⟨by unfold VG;rw[E1.out,E2.out,E3.out,E5.out,E6.out,E7.out,E9.out,E10.out,E12.out,E13.out,b17,h23,b25];rfl,rfl⟩
                       ·have b24:(a==17)=false:=by simp[h24]
                        go_wp2_with (go_at_call 218;refine(ji _ _).mono ?_;rintro e w1 ⟨rfl,rfl⟩;try rw[h23]);go_ret;exact⟨by unfold VG;rw[E1.out,E2.out,E3.out,E5.out,E6.out,E7.out,E9.out,E10.out,E12.out,E13.out,b17,h23,b24];rfl,rfl⟩
                      case true=>
                       by_cases h26:q=17;·subst h26;go_wp2_with (go_at_call 218;refine(ji _ _).mono ?_;rintro e w1 ⟨rfl,rfl⟩;try rw[h23]);go_ret;exact⟨by unfold VG;rw[E1.out,E2.out,E3.out,E5.out,E6.out,E7.out,E9.out,E10.out,E12.out,E13.out,b17,h23];rfl,rfl⟩
                       ·have b26:(q==17)=false:=by simp[h26]
                        by_cases h27:a=17;·subst h27;go_wp2_with (go_at_call 218;refine(ji _ _).mono ?_;rintro e w1 ⟨rfl,rfl⟩;try rw[h23]);go_ret;exact⟨by unfold VG;rw[E1.out,E2.out,E3.out,E5.out,E6.out,E7.out,E9.out,E10.out,E12.out,E13.out,b17,h23,b26];rfl,rfl⟩
                        ·have b27:(a==17)=false:=by simp[h27]
                         go_wp2_with (go_at_call 218;refine(ji _ _).mono ?_;rintro e w1 ⟨rfl,rfl⟩;try rw[h23]);go_ret;exact⟨by unfold VG;rw[E1.out,E2.out,E3.out,E5.out,E6.out,E7.out,E9.out,E10.out,E12.out,E13.out,b17,h23,b26,b27];rfl,rfl⟩
structure sU (w:World) (g o n:Nat) (cls:List Int):Prop where
 len:cls.length=n
 small:n<=100000
 blk:g<w.heap.size
 cell:∀j,j<n->w.cell? ⟨g,o+j,none⟩=some (.int .i64 (cls.getD j 0))
theorem sU.below {w w':World} {g o n:Nat} {cls:List Int} (h:sU w g o n cls) {B:Nat} (hB:g<B) (hb:Below B w w'):sU w' g o n cls:=
 ⟨h.len,h.small,bH h.blk hb.size,λj hj=>by rw[hb.cell (p:=⟨g,o+j,none⟩) hB];exact h.cell j hj⟩
theorem sU.alloc {w:World} {g o n:Nat} {cls:List Int} (h:sU w g o n cls) (x:Obj):sU (w.alloc x) g o n cls:=h.below h.blk ((aF _ w).alloc (ay _) x)
def dF (cls:List Int):Nat->Int
 |0=> -1
 |k+1=>if dx (cls.getD k 0)then dF cls k else k
def fu (cls:List Int) (i:Int):Int:=if 0<=i then dF cls i.toNat else i-1
theorem lg (cls:List Int):∀k,-1<=dF cls k/\dF cls k<k
 |0=>⟨Int.le_refl _,by show(-1:Int)<0;decide⟩
 |k+1=>by have:=lg cls k;show-1<=(if dx (cls.getD k 0)then dF cls k else(k:Int))/\(if dx (cls.getD k 0)then dF cls k else(k:Int))<((k+1:Nat):Int);split<;>omega
def iM (cls:List Int) (i:Int):Int:=if i<0\/(cls.length:Int)<=i then-1 else cls.getD i.toNat 0
def qj (cls:List Int):Nat->Nat->Nat
 |0,i=>i
 |f+1,i=>if i<cls.length/\dx (cls.getD i 0)=true then qj cls f (i+1)else i
def Et (cls:List Int) (i:Nat):Int:=iM cls (qj cls (cls.length-i) (i+1))
def JE (x:Int) (W:World) (e:Ending) (w':World):Prop:=e= .returned (.int .i64 x)/\Below W.heap.size W w'
theorem Tz (cls:List Int) (A1:Option Addr) (n1 c1 g o n c:Nat) (L:Int) (i:Nat) (W:World) (h:sU W g o n cls) (hi:i<=n):
 Calls Tryz.prog 149 #[.agg #[.slice A1 n1 c1, .slice (some ⟨g,o,none⟩) n c, .int .i64 L], .int .i64 i] W (JE (dF cls i) W):=by
 have hgl:=h.blk;have hsm:=h.small;have HC:=ah h;clear h;obtain⟨i1,hi1⟩:∃i1:Int,(i:Int)-1=i1:=⟨_,rfl⟩
 have hwi:wrap64 ((i:Int)-1)=i1:=by unfold wrap64;omega
 go_enter Tryz.func149,Tryz.ntmps149;go_wp2;clear hwi;go_loopw [1] (λvi wr=>∃k:Nat,k<=i/\vi= .int .i64 ((k:Int)-1)/\dF cls k=dF cls i/\wr=W.alloc (.cells #[.slice A1 n1 c1, .slice (some ⟨g,o,none⟩) n c, .int .i64 L] 163)) (λvi _=>(RowKit.intOf vi+1).toNat);case atStart=>exact⟨i,ay _,by rw[hi1],rfl,rfl⟩
 case round=>
  obtain⟨k,hk,rfl,hbk,rfl⟩:=hrel;have HB:=ah hbk;clear hbk;cases k with
  |zero=>go_wp2;go_ret;exact⟨by rw[<-HB.out];rfl,(aF _ W).alloc (ay _) _⟩
  |succ j=>
   have hcell:=HC.out.cell j (by omega);obtain⟨x,hx⟩:∃x,cls.getD j 0=x:=⟨_,rfl⟩
   rw[hx]at hcell;have HX:=ah hx;clear hx;have he:(((j+1:Nat):Int)-1)=(j:Int):=by omega
   rw[he];have Qr:wrap64 ((j:Int)-1)=(j:Int)-1:=by unfold wrap64;omega
   have hj2:j<n:=by omega
   cases hh:dx x with
   |true=>
    go_wp2_with (go_at_call 148;refine(sS _ _).mono ?_;rintro e w1 ⟨rfl,rfl⟩;rw[hh]);refine⟨⟨j,by omega,by first|rfl|(congr 1;omega),?_,by first|rfl|trivial⟩,by simp[RowKit.intOf]<;>omega⟩;rw[<-HB.out];show _=if dx (cls.getD j 0)then _ else _
    rw[HX.out,hh];rfl
   |false=>go_wp2_with (go_at_call 148;refine(sS _ _).mono ?_;rintro e w1 ⟨rfl,rfl⟩;rw[hh]);go_ret;refine⟨?_,(aF _ W).alloc (ay _) _⟩;rw[<-HB.out];show _=Ending.returned (.int .i64 (if dx (cls.getD j 0)then _ else _));rw[HX.out,hh];rfl
theorem Zm (A1:Option Addr) (n1 c1 g o n c:Nat) (L i:Int) (W:World) (hi:i<0) (hi2: -100<i):
 Calls Tryz.prog 149 #[.agg #[.slice A1 n1 c1, .slice (some ⟨g,o,none⟩) n c, .int .i64 L], .int .i64 i] W (JE (i-1) W):=by
 obtain⟨x,hx⟩:∃x:Int,i-1=x:=⟨_,rfl⟩
 have hwi:wrap64 (i-1)=x:=by unfold wrap64;omega
 rw[hx];have hx0:¬0<=x:=by omega
 go_enter Tryz.func149,Tryz.ntmps149;go_wp2;clear hwi;go_loopw [1] (λvi wr=>vi= .int .i64 x/\Below W.heap.size W wr) (λ_ _=>0);case atStart=>exact⟨by first|rfl|(congr 1;omega),(aF _ W).alloc (ay _) _⟩
 case round=>obtain⟨rfl,hb⟩:=hrel;go_wp2;go_ret;exact⟨rfl,hb⟩
theorem Ll (cls:List Int) (A1:Option Addr) (n1 c1 g o n c:Nat) (L i:Int) (W:World) (h:sU W g o n cls) (hi:i<=n) (hi2: -100<i):
 Calls Tryz.prog 149 #[.agg #[.slice A1 n1 c1, .slice (some ⟨g,o,none⟩) n c, .int .i64 L], .int .i64 i] W (JE (fu cls i) W):=by
 unfold fu;split;·rename_i h0;obtain⟨k,rfl⟩:=EX h0;exact Tz cls A1 n1 c1 g o n c L k W h (by omega)
 ·exact Zm A1 n1 c1 g o n c L i W (by omega) hi2
theorem JF (cls:List Int) (A1:Option Addr) (n1 c1 g o n c:Nat) (L i:Int) (W:World) (h:sU W g o n cls):
 Calls Tryz.prog 151 #[.agg #[.slice A1 n1 c1, .slice (some ⟨g,o,none⟩) n c, .int .i64 L], .int .i64 i] W (JE (iM cls i) W):=by
 have hgl:=h.blk;have hsm:=h.small;unfold iM;rw[h.len];by_cases h0:i<0;·rw[ak (.inl h0)];clear h;go_enter Tryz.func151,Tryz.ntmps151;go_wp2;go_ret;exact⟨rfl,(aF _ W).alloc (ay _) _⟩
 ·obtain⟨k,rfl⟩:=EX (Int.not_lt.1 h0);by_cases h1:(n:Int)<=(k:Int)
  ·rw[ak (.inr h1)];clear h h0;have h2:¬k<n:=by omega
   go_enter Tryz.func151,Tryz.ntmps151;go_wp2;go_ret;exact⟨rfl,(aF _ W).alloc (ay _) _⟩
  ·rw[aj (by omega),jV];have hcell:=h.cell k (by omega);have h2:k<n:=by omega
   have h3:¬n<=k:=by omega
   obtain⟨x,hx⟩:∃x,cls.getD k 0=x:=⟨_,rfl⟩
   rw[hx]at hcell⊢;clear h h0 hx;go_enter Tryz.func151,Tryz.ntmps151;go_wp2;go_ret;exact⟨rfl,(aF _ W).alloc (ay _) _⟩
theorem ajg (cls:List Int) (A1:Option Addr) (n1 c1 g o n c:Nat) (L:Int) (i:Nat) (W:World) (h:sU W g o n cls) (hi:i<n):
 Calls Tryz.prog 152 #[.agg #[.slice A1 n1 c1, .slice (some ⟨g,o,none⟩) n c, .int .i64 L], .int .i64 i] W (JE (Et cls i) W):=by
 have hgl:=h.blk;have hsm:=h.small;have HC:=ah h;clear h;obtain⟨i1,hi1⟩:∃i1:Nat,i+1=i1:=⟨_,rfl⟩
 have hwi:wrap64 ((i:Int)+1)=(i1:Int):=by unfold wrap64;omega
 obtain⟨r,hr⟩:∃r,Et cls i=r:=⟨_,rfl⟩
 rw[hr];have HR:=ah (show iM cls (qj cls (n-i) i1)=r by rw[<-hr,<-hi1,<-HC.out.len];rfl);clear hr;go_enter Tryz.func152,Tryz.ntmps152;go_wp2;clear hwi;go_loopw [1] (λvi wr=>∃k f:Nat,k<=n/\n<k+f+1/\vi= .int .i64 (k:Int)/\iM cls (qj cls f k)=r/\wr=W.alloc (.cells #[.slice A1 n1 c1, .slice (some ⟨g,o,none⟩) n c, .int .i64 L] 163)) (λvi _=>n-(RowKit.intOf vi).toNat);case atStart=>exact⟨i1,n-i,by omega,by omega,by first|rfl|(congr 1;omega),HR.out,rfl⟩
 case round=>
  obtain⟨k,f,hk,hf,rfl,hbk,rfl⟩:=hrel;have HB:=ah hbk;clear hbk;by_cases hlt:k<n
  ·have hcell:=HC.out.cell k hlt;obtain⟨f,rfl⟩:∃f',f=f'+1:=⟨f-1,by omega⟩
   obtain⟨x,hx⟩:∃x,cls.getD k 0=x:=⟨_,rfl⟩
   rw[hx]at hcell;have HX:=ah hx;clear hx;obtain⟨k1,hk1⟩:∃k1:Nat,k+1=k1:=⟨_,rfl⟩
   have Qr:wrap64 ((k:Int)+1)=(k1:Int):=by unfold wrap64;omega
   cases hh:dx x with
   |true=>go_wp2_with (go_at_call 148;refine(sS _ _).mono ?_;rintro e w1 ⟨rfl,rfl⟩;rw[hh]);refine⟨⟨k1,f,by omega,by omega,by first|rfl|(congr 1;omega),?_,by first|rfl|trivial⟩,by simp[RowKit.intOf]<;>omega⟩;rw[<-HB.out];show _=iM cls ((if k<cls.length/\dx (cls.getD k 0)=true then qj cls f (k+1)else k:Nat):Int);rw[HX.out,HC.out.len,ak ⟨hlt,hh⟩,hk1]
   |false=>
    have HQ:=ah (show iM cls k=r by
     rw[<-HB.out];show _=iM cls ((if k<cls.length/\dx (cls.getD k 0)=true then qj cls f (k+1)else k:Nat):Int);rw[HX.out,aj (λh=>by rw[hh]at h;exact vU h.2)])
    go_wp2_with (first
     |(go_at_call 148;refine(sS _ _).mono ?_;rintro e w1 ⟨rfl,rfl⟩;rw[hh])
     |(go_at_call 151;refine(JF cls _ _ _ _ _ _ _ _ _ _ (HC.out.alloc _)).mono ?_;rintro e w1 ⟨rfl,hb⟩;have HB1:=ah hb;clear hb;rw[HQ.out]))
    go_ret;exact⟨rfl,((aF _ W).alloc (ay _) _).trans (HB1.out.mono (by simp))⟩
  ·obtain rfl:k=n:=by omega
   have HQ:=ah (show iM cls k=r by
    rw[<-HB.out];cases f with
    |zero=>rfl
    |succ f=>show _=iM cls ((if k<cls.length/\dx (cls.getD k 0)=true then qj cls f (k+1)else k:Nat):Int);rw[aj (λh=>by have:=HC.out.len;omega)])
   go_wp2_with (go_at_call 151;refine(JF cls _ _ _ _ _ _ _ _ _ _ (HC.out.alloc _)).mono ?_;rintro e w1 ⟨rfl,hb⟩;have HB1:=ah hb;clear hb;rw[HQ.out]);go_ret;exact⟨rfl,((aF _ W).alloc (ay _) _).trans (HB1.out.mono (by simp))⟩
structure CW (W:World) (A1:Option Addr) (n1 c1 g o n c:Nat) (L:Int) (w:World):Prop where
 aB:Below W.heap.size W w
 b0:w.cell? ⟨W.heap.size,0,none⟩=some (.slice A1 n1 c1)
 b1:w.cell? ⟨W.heap.size,1,none⟩=some (.slice (some ⟨g,o,none⟩) n c)
 b2:w.cell? ⟨W.heap.size,2,none⟩=some (.int .i64 L)
theorem CW.size {W:World} {A1:Option Addr} {n1 c1 g o n c:Nat} {L:Int} {w:World} (h:CW W A1 n1 c1 g o n c L w):W.heap.size<w.heap.size:=dO h.b0
theorem CW.go {W:World} {A1:Option Addr} {n1 c1 g o n c:Nat} {L:Int} {w w':World} (h:CW W A1 n1 c1 g o n c L w) (hb:Below w.heap.size w w'):CW W A1 n1 c1 g o n c L w':=
 ⟨h.aB.trans (hb.mono h.aB.size),by rw[hb.cell h.size];exact h.b0,by rw[hb.cell h.size];exact h.b1,by rw[hb.cell h.size];exact h.b2⟩
theorem CW.drewN {W:World} {A1:Option Addr} {n1 c1 g o n c:Nat} {L:Int} {w:World} (h:CW W A1 n1 c1 g o n c L w) (q:Nat):CW W A1 n1 c1 g o n c L (w.drewN q):=
 ⟨⟨h.aB.os,h.aB.tape,h.aB.output,h.aB.size,h.aB.block⟩,h.b0,h.b1,h.b2⟩
theorem CW.new (W:World) (A1:Option Addr) (n1 c1 g o n c:Nat) (L:Int) (ty:TypeId):CW W A1 n1 c1 g o n c L (W.alloc (.cells #[.slice A1 n1 c1, .slice (some ⟨g,o,none⟩) n c, .int .i64 L] ty)):=by refine⟨(aF _ W).alloc (ay _) _,?_,?_,?_⟩;all_goals rw[bA _ _ _ _ _ _ (cO W _)];rfl
def wB (cls:List Int):Nat->Int->Nat
 |0,_=>0
 |f+1,x=>if iM cls x=7 then wB cls f (fu cls x)+1 else 0
def QW (cls:List Int) (i:Nat):Nat:=wB cls (i+1) (fu cls i)
theorem TA (cls:List Int):∀f x,wB cls f x<=f
 |0,_=>ay _
 |f+1,x=>by unfold wB;have:=TA cls f (fu cls x);split<;>omega
theorem N8 (cls:List Int) (A1:Option Addr) (n1 c1 g o n c:Nat) (L:Int) (i:Nat) (W:World) (h:sU W g o n cls) (hi:i<n):
 Calls Tryz.prog 153 #[.agg #[.slice A1 n1 c1, .slice (some ⟨g,o,none⟩) n c, .int .i64 L], .int .i64 i] W (JE (QW cls i) W):=by
 have hgl:=h.blk;have hsm:=h.small;have TD:=ah (λ(w:World) (hb:Below W.heap.size W w)=>h.below hgl hb);clear h;obtain⟨R,hR⟩:∃R,QW cls i=R:=⟨_,rfl⟩
 have hRL:R<=i+1:=by rw[<-hR];exact TA _ _ _
 rw[hR];have HR:=ah (show wB cls (i+1) (fu cls i)=R from hR);clear hR;have HBF:=ah (λk:Nat=>show fu cls k=dF cls k by unfold fu;rw[ak (xQ k)];rfl);obtain⟨x0,hx0⟩:∃x0,fu cls i=x0:=⟨_,rfl⟩
 have hx1: -1<=x0/\x0<i:=by rw[<-hx0,HBF.out i];exact lg cls i
 obtain⟨hx1,hx2⟩:=hx1;rw[hx0]at HR;have HX0:=ah hx0;clear hx0;have HC0:=ah (CW.new W A1 n1 c1 g o n c L 163);go_enter Tryz.func153,Tryz.ntmps153;go_wp2_with (go_at_call 149;refine(Ll cls _ _ _ _ _ _ _ _ _ _ (TD.out _ HC0.out.aB) (by omega) (by omega)).mono ?_;rintro e w1 ⟨rfl,hb⟩;have HC1:=ah (HC0.out.go hb);clear hb;rw[HX0.out]);go_loopw [1,5] (λvi vn wr=>∃(x:Int) (m f:Nat),vi= .int .i64 x/\vn= .int .i64 m∧-1<=x/\x<n/\x<f/\m+wB cls f x=R/\CW W A1 n1 c1 g o n c L wr) (λvi _ _=>(RowKit.intOf vi+1).toNat);case atStart=>exact⟨x0,0,i+1,rfl,rfl,hx1,by omega,by omega,by rw[HR.out,bL],HC1.out⟩
 case round=>
  obtain⟨x,m,f,rfl,rfl,hm1,hm2,hxf,Lm,hcw⟩:=hrel;have HW:=ah hcw;obtain⟨_,b0,b1,b2⟩:=hcw;obtain⟨y,hy⟩:∃y,iM cls x=y:=⟨_,rfl⟩
  have HY:=ah hy;by_cases h7:y=7
  ·subst h7;have hx:0<=x:=by
    rcases Int.lt_or_le x 0 with c|c;·unfold iM at hy;rw[ak (.inl c)]at hy;cases hy
    ·exact c
   obtain⟨f',rfl⟩:∃f',f=f'+1:=⟨f-1,by omega⟩
   unfold wB at Lm;rw[ak hy]at Lm;clear hy;obtain⟨k,rfl⟩:=EX hx;obtain⟨x',hx'⟩:∃x',fu cls k=x':=⟨_,rfl⟩
   have hx2: -1<=x'/\x'<k:=by rw[<-hx',HBF.out k];exact lg cls k
   obtain⟨hy1,hy2⟩:=hx2;rw[hx']at Lm;have hml:m+1<=100001:=by omega
   have anF:=ah (show m+1+wB cls f' x'=R by omega);have HX':=ah hx';clear hx' hx Lm;go_wp2_with (first
    |(go_at_call 151;refine(JF cls _ _ _ _ _ _ _ _ _ _ (TD.out _ HW.out.aB)).mono ?_;rintro e w2 ⟨rfl,hb⟩;have HW2:=ah (HW.out.go hb);clear hb;rw[HY.out];obtain⟨_,d0,d1,d2⟩:=HW2.out)
    |(go_at_call 149;refine(Ll cls _ _ _ _ _ _ _ _ _ _ (TD.out _ HW2.out.aB) (by omega) (by omega)).mono ?_;rintro e w3 ⟨rfl,hb⟩;have HW3:=ah (HW2.out.go hb);clear hb;rw[HX'.out]))
   go_roundw;case rel=>exact⟨x',m+1,f',rfl,by go_num,hy1,by omega,by omega,anF.out,HW3.out⟩
   case measure=>simp[RowKit.intOf]<;>omega
  ·have h7b:(y==7)=false:=by simp[h7]
   have hmR:m=R:=by
    cases f with
    |zero=>exact Lm
    |succ f=>unfold wB at Lm;rw[aj (by rw[hy];exact h7)]at Lm;exact Lm
   have HMR:=ah hmR;clear hmR Lm;clear hy;go_wp2_with (go_at_call 151;refine(JF cls _ _ _ _ _ _ _ _ _ _ (TD.out _ HW.out.aB)).mono ?_;rintro e w2 ⟨rfl,hb⟩;have HW2:=ah (HW.out.go hb);clear hb;rw[HY.out]);go_ret;exact⟨by rw[HMR.out];rfl,HW2.out.aB⟩
def agh (x y:Int) (l:Bool) (r:Nat):Bool:=
 if(x==1&&y==2)=true then false else if(wu x||wu y)=true then true else if(x==5&&y==19)=true then false else if(x==18&&y==18)=true then false else if dx y=true then false else if l=true then false else !(y==7)||r%2==0
def GX (cls:List Int) (i:Nat):Bool:=agh (cls.getD (i-1) 0) (cls.getD i 0) (mF (iM cls (fu cls (dF cls i))) (iM cls (dF cls i)) (cls.getD i 0) (Et cls i)) (QW cls i)
def acB (b:Bool) (W:World) (e:Ending) (w':World):Prop:=e= .returned (.bool b)/\Below W.heap.size W w'
theorem acC (cls:List Int) (A1:Option Addr) (n1 c1 g o n c:Nat) (L:Int) (i:Nat) (W:World) (h:sU W g o n cls) (h1:1<=i) (hi:i<n):
 Calls Tryz.prog 101 #[.agg #[.slice A1 n1 c1, .slice (some ⟨g,o,none⟩) n c, .int .i64 L], .int .i64 i] W (acB (GX cls i) W):=by
 have hgl:=h.blk;have hsm:=h.small;have HC:=ah h;have hc0:=h.cell (i-1) (by omega);have hc1:=h.cell i hi;obtain⟨x,hx⟩:∃x,cls.getD (i-1) 0=x:=⟨_,rfl⟩
 obtain⟨y,hy⟩:∃y,cls.getD i 0=y:=⟨_,rfl⟩
 rw[hx]at hc0;rw[hy]at hc1;obtain⟨z,hz⟩:∃z,GX cls i=z:=⟨_,rfl⟩
 rw[hz];unfold GX agh at hz;rw[hx,hy]at hz;obtain⟨R,hR⟩:∃R,QW cls i=R:=⟨_,rfl⟩
 rw[hR]at hz;have HR:=ah hR;have HZ:=ah hz;clear hx hy h hz hR;go_enter Tryz.func101,Tryz.ntmps101;go_upto_region 1 with fail;go_cut [5,6] (λp q wx=>p= .int .i64 x/\q= .int .i64 y/\CW W A1 n1 c1 g o n c L wx);case first=>go_quiet (fail);go_wp2_with fail;go_meet;exact⟨rfl,rfl,(CW.new W A1 n1 c1 g o n c L _).drewN _⟩
 case rest=>
  obtain⟨rfl,rfl,hcw⟩:=hcut;have HW:=ah hcw;clear hcw hc0 hc1;obtain⟨bb,hbb⟩:∃bb,dF cls i=bb:=⟨_,rfl⟩
  have hbl:=lg cls i;rw[hbb]at hbl;obtain⟨arN,arO⟩:=hbl;rw[hbb]at HZ;have HBB:=ah hbb;clear hbb;go_upto_region 2 with fail;go_cut [19] (λb wx=>b= .bool (x==1&&y==2)/\wc=wx);case first=>
   by_cases e1:x=1;·subst e1;go_wp2_with fail;go_meet;exact⟨by first|rfl|simp,rfl⟩
   ·have b1:(x==1)=false:=by simp[e1]
    go_wp2_with fail;go_meet;exact⟨by rw[b1];rfl,rfl⟩
  case rest=>
   obtain⟨rfl,rfl⟩:=hcut;obtain⟨t1,ht1⟩:∃q,(x==1&&y==2)=q:=⟨_,rfl⟩
   rw[ht1]at HZ⊢;clear ht1;cases t1;case true=>(go_wp2_with fail;go_ret;exact⟨by rw[<-HZ.out];rfl,HW.out.aB⟩)
   case false=>
    go_upto_region 4 with fail;go_cut [26] (λb wx=>b= .bool (wu x||wu y)/\wc=wx);case first=>
     cases h0:wu x;case false=>(go_wp2_with (go_at_call 147;refine(Tx _ _).mono ?_;rintro e w1 ⟨rfl,rfl⟩;try rw[h0]);go_meet;exact⟨by rw[h0];rfl,rfl⟩)
     case true=>(go_wp2_with (go_at_call 147;refine(Tx _ _).mono ?_;rintro e w1 ⟨rfl,rfl⟩;try rw[h0]);go_meet;exact⟨by rw[h0];rfl,rfl⟩)
    case rest=>
     obtain⟨rfl,rfl⟩:=hcut;obtain⟨t2,ht2⟩:∃q,(wu x||wu y)=q:=⟨_,rfl⟩
     rw[ht2]at HZ⊢;clear ht2;cases t2;case true=>(go_wp2_with fail;go_ret;exact⟨by rw[<-HZ.out];rfl,HW.out.aB⟩)
     case false=>
      go_upto_region 6 with fail;go_cut [33] (λb wx=>b= .bool (x==5&&y==19)/\wc=wx);case first=>
       by_cases e1:x=5;·subst e1;go_wp2_with fail;go_meet;exact⟨by first|rfl|simp,rfl⟩
       ·have b1:(x==5)=false:=by simp[e1]
        go_wp2_with fail;go_meet;exact⟨by rw[b1];rfl,rfl⟩
      case rest=>
       obtain⟨rfl,rfl⟩:=hcut;obtain⟨t3,ht3⟩:∃q,(x==5&&y==19)=q:=⟨_,rfl⟩
       rw[ht3]at HZ⊢;clear ht3;cases t3;case true=>(go_wp2_with fail;go_ret;exact⟨by rw[<-HZ.out];rfl,HW.out.aB⟩)
       case false=>
        go_upto_region 7 with fail;go_cut [33] (λb wx=>b= .bool (x==18&&y==18)/\wc=wx);case first=>
         by_cases e1:x=18;·subst e1;go_wp2_with fail;go_meet;exact⟨by first|rfl|simp,rfl⟩
         ·have b1:(x==18)=false:=by simp[e1]
          go_wp2_with fail;go_meet;exact⟨by rw[b1];rfl,rfl⟩
        case rest=>
         obtain⟨rfl,rfl⟩:=hcut;obtain⟨t4,ht4⟩:∃q,(x==18&&y==18)=q:=⟨_,rfl⟩
         rw[ht4]at HZ⊢;clear ht4;cases t4;case true=>(go_wp2_with fail;go_ret;exact⟨by rw[<-HZ.out];rfl,HW.out.aB⟩)
         case false=>
          cases h0:dx y;case true=>(go_wp2_with (go_at_call 148;refine(sS _ _).mono ?_;rintro e w1 ⟨rfl,rfl⟩;rw[h0]);go_ret;exact⟨by rw[<-HZ.out,h0];rfl,HW.out.aB⟩)
          case false=>
           obtain⟨_,b0,b1,b2⟩:=HW.out;go_wp2_with (first|(go_at_call 148;refine(sS _ _).mono ?_;rintro e w1 ⟨rfl,rfl⟩;rw[h0])|(go_at_call 149;refine(Tz cls _ _ _ _ _ _ _ _ i _ (HC.out.below hgl HW.out.aB) (dD hi)).mono ?_;rintro e w1 ⟨rfl,hb⟩;have HW1:=ah (HW.out.go hb);clear hb;rw[HBB.out]));go_cut [63] (λb wx=>b= .bool (mF (iM cls (fu cls bb)) (iM cls bb) y (Et cls i))/\CW W A1 n1 c1 g o n c L wx);case first=>
            refine iC (C:=CW W A1 n1 c1 g o n c L) (by kernel_rfl) (by kernel_rfl) (HW1.out.drewN 1) ?_;refine dw (by kernel_rfl) (λK hK=> ?_);refine cZ (.agg #[.slice A1 n1 c1, .slice (some ⟨g,o,none⟩) n c, .int .i64 L]) (λw hw=> ?_) (hK _ ?_);·obtain⟨_,d0,d1,d2⟩:=hw;go_simp
            clear hK K;(try simp only[Act.put]);(try simp only[bn]);(try simp only[aQ]);(try simp only[aP]);refine dw (by kernel_rfl) (λK hK=> ?_);refine cZ (.agg #[.slice A1 n1 c1, .slice (some ⟨g,o,none⟩) n c, .int .i64 L]) (λw hw=> ?_) (hK _ ?_);·obtain⟨_,d0,d1,d2⟩:=hw;go_simp
            clear hK K;(try simp only[Act.put]);(try simp only[bn]);(try simp only[aQ]);(try simp only[aP]);refine dw (by kernel_rfl) (λK hK=> ?_);refine BigFrame.quiet_move _ rfl (hK _ ?_);clear hK K;(try simp only[Act.put]);(try simp only[bn]);(try simp only[aQ]);(try simp only[aP]);refine dw (by kernel_rfl) (λK hK=> ?_);refine gL 149 #[.agg #[.slice A1 n1 c1, .slice (some ⟨g,o,none⟩) n c, .int .i64 L], .int .i64 bb] (.int .i64 (fu cls bb)) (λw hw=> ?_) (λw hw=> ?_) (hK _ ?_);·go_simp
            ·refine(Ll cls _ _ _ _ _ _ _ _ _ _ (HC.out.below hgl hw.aB) (by omega) (by omega)).mono ?_;rintro e w2 ⟨rfl,hb⟩;exact⟨rfl,hw.go hb⟩
            clear hK K;(try simp only[Act.put]);(try simp only[bn]);(try simp only[aQ]);(try simp only[aP]);refine dw (by kernel_rfl) (λK hK=> ?_);refine gL 151 #[.agg #[.slice A1 n1 c1, .slice (some ⟨g,o,none⟩) n c, .int .i64 L], .int .i64 (fu cls bb)] (.int .i64 (iM cls (fu cls bb))) (λw hw=> ?_) (λw hw=> ?_) (hK _ ?_);·go_simp
            ·refine(JF cls _ _ _ _ _ _ _ _ _ _ (HC.out.below hgl hw.aB)).mono ?_;rintro e w2 ⟨rfl,hb⟩;exact⟨rfl,hw.go hb⟩
            clear hK K;(try simp only[Act.put]);(try simp only[bn]);(try simp only[aQ]);(try simp only[aP]);refine dw (by kernel_rfl) (λK hK=> ?_);refine cZ (.agg #[.slice A1 n1 c1, .slice (some ⟨g,o,none⟩) n c, .int .i64 L]) (λw hw=> ?_) (hK _ ?_);·obtain⟨_,d0,d1,d2⟩:=hw;go_simp
            clear hK K;(try simp only[Act.put]);(try simp only[bn]);(try simp only[aQ]);(try simp only[aP]);refine dw (by kernel_rfl) (λK hK=> ?_);refine BigFrame.quiet_move _ rfl (hK _ ?_);clear hK K;(try simp only[Act.put]);(try simp only[bn]);(try simp only[aQ]);(try simp only[aP]);refine dw (by kernel_rfl) (λK hK=> ?_);refine gL 151 #[.agg #[.slice A1 n1 c1, .slice (some ⟨g,o,none⟩) n c, .int .i64 L], .int .i64 bb] (.int .i64 (iM cls bb)) (λw hw=> ?_) (λw hw=> ?_) (hK _ ?_);·go_simp
            ·refine(JF cls _ _ _ _ _ _ _ _ _ _ (HC.out.below hgl hw.aB)).mono ?_;rintro e w2 ⟨rfl,hb⟩;exact⟨rfl,hw.go hb⟩
            clear hK K;(try simp only[Act.put]);(try simp only[bn]);(try simp only[aQ]);(try simp only[aP]);refine dw (by kernel_rfl) (λK hK=> ?_);refine BigFrame.quiet_move _ rfl (hK _ ?_);clear hK K;(try simp only[Act.put]);(try simp only[bn]);(try simp only[aQ]);(try simp only[aP]);refine dw (by kernel_rfl) (λK hK=> ?_);refine cZ (.agg #[.slice A1 n1 c1, .slice (some ⟨g,o,none⟩) n c, .int .i64 L]) (λw hw=> ?_) (hK _ ?_);·obtain⟨_,d0,d1,d2⟩:=hw;go_simp
            clear hK K;(try simp only[Act.put]);(try simp only[bn]);(try simp only[aQ]);(try simp only[aP]);refine dw (by kernel_rfl) (λK hK=> ?_);refine BigFrame.quiet_move _ rfl (hK _ ?_);clear hK K;(try simp only[Act.put]);(try simp only[bn]);(try simp only[aQ]);(try simp only[aP]);refine dw (by kernel_rfl) (λK hK=> ?_);refine gL 152 #[.agg #[.slice A1 n1 c1, .slice (some ⟨g,o,none⟩) n c, .int .i64 L], .int .i64 i] (.int .i64 (Et cls i)) (λw hw=> ?_) (λw hw=> ?_) (hK _ ?_);·go_simp
            ·refine(ajg cls _ _ _ _ _ _ _ _ i _ (HC.out.below hgl hw.aB) hi).mono ?_;rintro e w2 ⟨rfl,hb⟩;exact⟨rfl,hw.go hb⟩
            clear hK K;(try simp only[Act.put]);(try simp only[bn]);(try simp only[aQ]);(try simp only[aP]);refine dw (by kernel_rfl) (λK hK=> ?_);refine gL 150 #[.int .i64 (iM cls (fu cls bb)), .int .i64 (iM cls bb), .int .i64 y, .int .i64 (Et cls i)] (.bool (mF (iM cls (fu cls bb)) (iM cls bb) y (Et cls i))) (λw hw=> ?_) (λw hw=> ?_) (hK _ ?_);·go_simp
            ·refine(uE _ _ _ _ _).mono ?_;rintro e w2 ⟨rfl,rfl⟩;exact⟨rfl,hw⟩
            clear hK K;(try simp only[Act.put]);(try simp only[bn]);(try simp only[aQ]);(try simp only[aP]);refine wpQuiet_nil ?_;intro w' hw';go_wp2_with fail;go_meet;exact⟨rfl,hw'⟩
           case rest=>
            obtain⟨rfl,hcw⟩:=hcut;rw[h0]at HZ;obtain⟨t5,ht5⟩:∃q,mF (iM cls (fu cls bb)) (iM cls bb) y (Et cls i)=q:=⟨_,rfl⟩
            rw[ht5]at HZ⊢;clear ht5;have HW2:=ah hcw;clear b0 b1 b2 HW HW1;obtain⟨_,d0,d1,d2⟩:=hcw;cases t5;case true=>(go_wp2_with fail;go_ret;exact⟨by rw[<-HZ.out];rfl,HW2.out.aB⟩)
            case false=>
             by_cases e7:y=7;·subst e7;go_wp2_with (go_at_call 153;refine(N8 cls _ _ _ _ _ _ _ _ i _ (HC.out.below hgl HW2.out.aB) hi).mono ?_;rintro e w3 ⟨rfl,hb⟩;rw[HR.out];have HW3:=ah (HW2.out.go hb);clear hb);go_ret;exact⟨by rw[<-HZ.out];show Ending.returned (.bool ((R:Int)%2==0))=Ending.returned (.bool (R%2==0));congr 2;rw[fJ,bV,bV];omega,HW3.out.aB⟩
             ·have b7:(y==7)=false:=by simp[e7]
              go_wp2_with fail;go_ret;exact⟨by rw[<-HZ.out];rw[b7];rfl,HW2.out.aB⟩
section
open Folds (dec bf bW)
structure SL (w1:World) (s:ByteArray) (L:Int) (e m1 m2:Nat) (x1 x2 v1 v2:Value) (ats cls:List Int) (w:World):Prop where
 aB:Below w1.heap.size w1 w
 it:w.heap[w1.heap.size+1]? =some (.stringIter s e)
 blk:w.heap[w1.heap.size]? =some (.cells #[x1,x2, .int .i64 L] 163 (0,0))
 o1:w.ownsRow w1.heap.size 3 1 v1 m1 (bD ats)
 o2:w.ownsRow w1.heap.size 3 1 v2 m2 (bD cls)
 ap:∀k,v1.ownBlock=some k->v2.ownBlock=some k->False
section
variable {w1 w w':World} {s:ByteArray} {L:Int} {e m1 m2:Nat} {x1 x2 v1 v2:Value} {ats cls:List Int}
theorem SL.below (h:SL w1 s L e m1 m2 x1 x2 v1 v2 ats cls w) (hb:Below w.heap.size w w'):SL w1 s L e m1 m2 x1 x2 v1 v2 ats cls w':=
 ⟨h.aB.trans (hb.mono h.aB.size),bM hb h.it,bM hb h.blk,own_below hb h.o1,own_below hb h.o2,h.ap⟩
theorem SL.alloc (h:SL w1 s L e m1 m2 x1 x2 v1 v2 ats cls w) (o:Obj):SL w1 s L e m1 m2 x1 x2 v1 v2 ats cls (w.alloc o):=h.below ((aF _ w).alloc (ay _) o)
theorem SL.eF (h:SL w1 s L e m1 m2 x1 x2 v1 v2 ats cls w) {o:Obj}:(w.alloc o).ownsRow w1.heap.size 3 1 v1 m1 (bD ats):=(h.alloc o).o1
theorem SL.QX (h:SL w1 s L e m1 m2 x1 x2 v1 v2 ats cls w) {o:Obj}:(w.alloc o).ownsRow w1.heap.size 3 1 v2 m2 (bD cls):=(h.alloc o).o2
theorem SL.drew (h:SL w1 s L e m1 m2 x1 x2 v1 v2 ats cls w):SL w1 s L e m1 m2 x1 x2 v1 v2 ats cls w.drew:=⟨⟨h.aB.os,h.aB.tape,h.aB.output,h.aB.size,h.aB.block⟩,h.it,h.blk,h.o1,h.o2,h.ap⟩
theorem SL.iter (h:SL w1 s L e m1 m2 x1 x2 v1 v2 ats cls w) (e':Nat):SL w1 s L e' m1 m2 x1 x2 v1 v2 ats cls (w.iterAt (w1.heap.size+1) s e'):=
 ⟨below_iterAt h.aB (nJ _) s e',iterAt_heap w _ s e e' h.it,(iterAt_other w _ _ s e' (Nat.ne_of_lt (lX _))).trans h.blk,own_iterAt h.it h.o1,own_iterAt h.it h.o2,h.ap⟩
theorem SL.box (h:SL w1 s L e m1 m2 x1 x2 v1 v2 ats cls w):w.cell? ⟨w1.heap.size,0,none⟩=some x1/\w.cell? ⟨w1.heap.size,1,none⟩=some x2/\w.cell? ⟨w1.heap.size,2,none⟩=some (.int .i64 L)/\(∀j,w.frozen? ⟨w1.heap.size,j,none⟩=false)/\w1.heap.size<w.heap.size:=
 ⟨by rw[bA _ _ _ _ _ _ h.blk];rfl,by rw[bA _ _ _ _ _ _ h.blk];rfl,by rw[bA _ _ _ _ _ _ h.blk];rfl,λj=>frozen_of_row _ _ _ _ _ h.blk,bU h.blk⟩
theorem own_ne {g:Nat} {base:Nat} {v:Value} {n:Nat} {xs:List Value} {o:Obj} (h:w.ownsRow base 3 1 v n xs) (hg:w.heap[g]? =some o) (ho:∀cur,o≠.cells cur 3 (0,0)):some g≠v.ownBlock:=by intro hk;obtain⟨_,_,cur,hcur⟩:=bB h hk.symm;rw[hg]at hcur;exact ho cur (dN hcur)
theorem SL.ajh (h:SL w1 s L e m1 m2 x1 x2 v1 v2 ats cls w) {o:Obj} {v':Value} {x:Int} (ho:w'.ownsRow w1.heap.size 3 1 v' (m1+1) (bD ats++[.int .i64 x])) (hg:(w.alloc o).grownBy w' v1.ownBlock) (hn:v'.ownBlock=v1.ownBlock\/v'.ownBlock=some (w.alloc o).heap.size):
 SL w1 s L e (m1+1) m2 x1 x2 v' v2 (ats++[x]) cls w':=by
 have h':=h.alloc o;refine⟨h'.aB.grown hg h'.aB.size (λk hk=>(bB h'.o1 hk).1),?_,?_,by rw[kZ];exact ho,?_,?_⟩;·rw[hg.block _ (bU h'.it) (own_ne h'.o1 h'.it (λ_ h=>by cases h))];exact h'.it
 ·rw[hg.block _ (bU h'.blk) (own_ne h'.o1 h'.blk (λ_ h=>by injection h with _ h;exact absurd h (by decide)))];exact h'.blk
 ·exact(Fr.grown (T:=λk=>v1.ownBlock=some k) hg (λk hk _=>hk)).own h'.o2 (λk hk hk2=>h.ap k hk2 hk)
 ·intro k hk hk2;rcases hn with hn|hn
  ·rw[hn]at hk;exact h.ap k hk hk2
  ·rw[hn]at hk;have:=(bB h'.o2 hk2).2.1;injection hk with hk;omega
theorem SL.Zn (h:SL w1 s L e m1 m2 x1 x2 v1 v2 ats cls w) {o:Obj} {v':Value} {x:Int} (ho:w'.ownsRow w1.heap.size 3 1 v' (m2+1) (bD cls++[.int .i64 x])) (hg:(w.alloc o).grownBy w' v2.ownBlock) (hn:v'.ownBlock=v2.ownBlock\/v'.ownBlock=some (w.alloc o).heap.size):
 SL w1 s L e m1 (m2+1) x1 x2 v1 v' ats (cls++[x]) w':=by
 have h':=h.alloc o;refine⟨h'.aB.grown hg h'.aB.size (λk hk=>(bB h'.o2 hk).1),?_,?_,?_,by rw[kZ];exact ho,?_⟩;·rw[hg.block _ (bU h'.it) (own_ne h'.o2 h'.it (λ_ h=>by cases h))];exact h'.it
 ·rw[hg.block _ (bU h'.blk) (own_ne h'.o2 h'.blk (λ_ h=>by injection h with _ h;exact absurd h (by decide)))];exact h'.blk
 ·exact(Fr.grown (T:=λk=>v2.ownBlock=some k) hg (λk hk _=>hk)).own h'.o1 (λk hk hk2=>h.ap k hk hk2)
 ·intro k hk hk2;rcases hn with hn|hn
  ·rw[hn]at hk2;exact h.ap k hk hk2
  ·rw[hn]at hk2;have:=(bB h'.o1 hk).2.1;injection hk2 with hk2;omega
theorem SL.set1 (h:SL w1 s L e m1 m2 x1 x2 v1 v2 ats cls w) (u:Value):SL w1 s L e m1 m2 u x2 v1 v2 ats cls (w.setCell ⟨w1.heap.size,0,none⟩ u):=by refine⟨h.aB.setCell (ay _) u,(xY w _ u _ (Nat.succ_ne_self _)).trans h.it,uF w _ 0 _ _ u h.blk,ownsRow_setCell_other h.o1 (own_ne h.o1 h.blk (λ_ h=>by injection h with _ h;exact absurd h (by decide))).symm u,ownsRow_setCell_other h.o2 (own_ne h.o2 h.blk (λ_ h=>by injection h with _ h;exact absurd h (by decide))).symm u,h.ap⟩
theorem SL.set2 (h:SL w1 s L e m1 m2 x1 x2 v1 v2 ats cls w) (u:Value):SL w1 s L e m1 m2 x1 u v1 v2 ats cls (w.setCell ⟨w1.heap.size,1,none⟩ u):=by refine⟨h.aB.setCell (ay _) u,(xY w _ u _ (Nat.succ_ne_self _)).trans h.it,uF w _ 1 _ _ u h.blk,ownsRow_setCell_other h.o1 (own_ne h.o1 h.blk (λ_ h=>by injection h with _ h;exact absurd h (by decide))).symm u,ownsRow_setCell_other h.o2 (own_ne h.o2 h.blk (λ_ h=>by injection h with _ h;exact absurd h (by decide))).symm u,h.ap⟩
end
theorem gM {w:World} {base n c:Nat} {A:Option Addr} {zs:List Int} (h:w.ownsRow base 3 1 (.slice A n c) n (bD zs)) (hn:n<=100000):bQ w A n zs:=by
 refine⟨by have:=h.1;simpa[bD]using this,hn,λh0=> ?_⟩;obtain⟨g,rfl⟩:=sO h h0;refine⟨g,0,rfl,(bB h rfl).2.1,λj hj=> ?_⟩;have hl:zs.length=n:=by have:=h.1;simpa[bD]using this
 have hx:=qX (g:=g) h rfl j (.int .i64 (zs.getD j 0)) (by
  unfold bD;rw[fQ,aX (by omega),aM,aX (by omega)];rfl)
 rw[<-iA];exact hx
noncomputable def aez (c:Option Code):ByteArray:=match c with
 |some (Code.seq _ (Code.seq (Code.region _ ops _) _))=>match ops[0]? with
  |some o=>match o.op with
   |Op.call c=>match c.args[0]? with
    |some (Operand.const (Value.string s))=>s
    |_=>⟨#[]⟩
   |_=>⟨#[]⟩
  |none=>⟨#[]⟩
 |_=>⟨#[]⟩
noncomputable def yj:ByteArray:=aez Tryz.f100.body
def acD (w:World):Prop:=Calls Tryz.prog 95 #[.string yj] w λe w'=>∃d x y,e= .returned (.tuple #[d,x,y])/\GA w' d iy/\Below w.heap.size w w'
theorem DW:IU iy=true:=by decide+kernel
def eG (t:List UInt8):List Int:=(marks t).map λx=>(x.1:Int)
def QY (t:List UInt8):List Int:=(marks t).map λx=>gq iy (fM (x.2:Int))
theorem ql (t:List UInt8):(marks t).length<=t.length:=by have:=C8 t t.length 0 (aH _);unfold marks;omega
def VH (t:List UInt8) (W:World) (e:Ending) (w':World):Prop:=∃A1 m c1 A2 c2,m<=10000/\e= .returned (.agg #[.slice A1 m c1, .slice A2 m c2, .int .i64 t.length])/\bQ w' A1 m (eG t)/\bQ w' A2 m (QY t)/\Below W.heap.size W w'
theorem aji {m e n:Nat} (h1:m<=e) (h2:e<=n) (h3:n<=10000):m+1<=maxLen/\(m+1)*8<=0x800000000000:=⟨by simp only[maxLen];omega,by omega⟩
theorem Zo (t:List UInt8) (W:World) (hN:∀w,Below W.heap.size W w->acD w) (hn:t.length<=10000):Calls Tryz.prog 100 #[.string ⟨t.toArray⟩] W (VH t W):=by
 obtain⟨s,hs⟩:∃s:ByteArray,(⟨t.toArray⟩:ByteArray)=s:=⟨_,rfl⟩
 have hss:s.size=t.length:=size_mk t s hs;rw[hs];have HS:=ah hs;have lI:=ah hss;have HN:=ah hN;have TF:=ah hn;clear hs hss hN hn;obtain⟨i0,hI0,hz0,hz1,hz2⟩:=eD gK;go_enter Tryz.func100,Tryz.ntmps100;go_wp2_with (go_at_call 95;refine(HN.out _ ((aF _ W).alloc (ay _) _)).mono ?_;rintro e w1 ⟨d,x,y,rfl,hd,hb⟩;have HD:=ah hd;have HB:=ah hb;clear hd hb);go_loopw [] (λwr=>∃(e f m:Nat) (A1:Option Addr) (c1:Nat) (A2:Option Addr) (c2:Nat) (ats cls:List Int),SL w1 s (s.size:Int) e m m (.slice A1 m c1) (.slice A2 m c2) (.slice A1 m c1) (.slice A2 m c2) ats cls wr/\e<=s.size/\s.size<f+e+1/\m<=e/\ats++(aD t f e).map (λx=>(x.1:Int))=eG t/\cls++(aD t f e).map (λx=>gq iy (fM (x.2:Int)))=QY t) (λwr=>s.size-wr.iterPos (w1.heap.size+1));case atStart=>
  refine⟨0,t.length,0,none,0,none,0,[],[],⟨?_,?_,?_,⟨rfl, .inl ⟨rfl,rfl⟩⟩,⟨rfl, .inl ⟨rfl,rfl⟩⟩,λ_ h=>by cases h⟩,aH _,by have:=lI.out;omega,ay _,rfl,rfl⟩;·exact((aF _ w1).alloc (ay _) _).alloc (by simp) _
  ·have:=cO (w1.alloc (.cells #[.slice none 0 0, .slice none 0 0, .int .i64 (s.size:Int)] 163)) (.stringIter s 0);rw[fK]at this;exact this
  ·exact(qY _ _ _ (by simp)).trans (cO _ _)
 case round=>
  obtain⟨e,f,m,A1,c1,A2,c2,ats,cls,hSL,he,hf,hm,hla,hlc⟩:=hrel;have hit:=hSL.it;have HSL:=ah hSL;by_cases hlt:e<s.size
  ·clear hSL;obtain⟨f',rfl⟩:∃f',f=f'+1:=⟨f-1,by omega⟩
   have hlt2:e<t.length:=by have:=lI.out;omega
   unfold aD at hla hlc;rw[ak hlt2,lJ]at hla hlc;dsimp only at hla hlc;have hnx:=λty=>run_next_any_at (P:=Tryz.prog) wr _ s e ty hit hlt;rw[iB t e s HS.out]at hnx;have hne2:t.drop e≠[]:=by intro c;rw[jy]at c;have:=lI.out;omega
   have hd1:=bf (t.drop e);have hd2:=bW (t.drop e) hne2;rw[bZ,<-lI.out]at hd2;obtain⟨r,hr⟩:∃r:Int,((dec (t.drop e)).1:Int)=r:=⟨_,rfl⟩
   obtain⟨wd,hwd⟩:∃wd,(dec (t.drop e)).2=wd:=⟨_,rfl⟩
   rw[hwd]at hd1 hd2 hla hlc;rw[hr]at hlc;rw[hr,hwd]at hnx;obtain⟨ew,Db⟩:∃ew,e+wd=ew:=⟨_,rfl⟩
   rw[Db]at hnx hla hlc;obtain⟨cx,hcx⟩:∃cx,gq iy (fM r)=cx:=⟨_,rfl⟩
   rw[hcx]at hlc;have HCX:=ah hcx;have HLA:=ah hla;have Zp:=ah hlc;clear hla hlc hlt2;have HLEN:=ah (aji hm he (by rw[lI.out];exact TF.out));have tF:=ah (HSL.out.iter ew);obtain⟨j0,j1,j2,j3,j4⟩:=tF.out.box;have j3':=j3 0;have hq2:wr.iterPos (w1.heap.size+1)=e:=by unfold World.iterPos;rw[hit]
   have KEY:=ah (λ(B1:Option Addr) (d1:Nat) (B2:Option Addr) (d2:Nat) (w':World) (h:SL w1 s (s.size:Int) ew (m+1) (m+1) (.slice B1 (m+1) d1) (.slice B2 (m+1) d2) (.slice B1 (m+1) d1) (.slice B2 (m+1) d2) (ats++[(e:Int)]) (cls++[cx]) w')=>
    show(∃(e f m:Nat) (A1:Option Addr) (c1:Nat) (A2:Option Addr) (c2:Nat) (ats cls:List Int),SL w1 s (s.size:Int) e m m (.slice A1 m c1) (.slice A2 m c2) (.slice A1 m c1) (.slice A2 m c2) ats cls w'/\e<=s.size/\s.size<f+e+1/\m<=e/\ats++(aD t f e).map (λx=>(x.1:Int))=eG t/\cls++(aD t f e).map (λx=>gq iy (fM (x.2:Int)))=QY t)/\s.size-w'.iterPos (w1.heap.size+1)<s.size-wr.iterPos (w1.heap.size+1)from by
     refine⟨⟨ew,f',m+1,B1,d1,B2,d2,_,_,h,by omega,by omega,by omega,by rw[dR];exact HLA.out,by rw[dR];exact Zp.out⟩,?_⟩;have q1:w'.iterPos (w1.heap.size+1)=ew:=by unfold World.iterPos;rw[h.it]
     rw[q1,hq2];omega)
   clear hr hwd Db hcx j3 hd1 hd2 hne2 hf hm he hq2;go_wp2_with (at_builtin;refine aY _ rfl (.tmp 24) (.tmp 26) 41 rfl w1.heap.size 3 i0 _ 8 Tryz.underlying41 hI0 hz0 hz1 hz2 rfl (.slice A1 m c1) m (bD ats) rfl tF.out.eF _ 1 1 [.int .i64 e] rfl (bY _ _ _) (by simp[Value.oneCell']) HLEN.out.1 HLEN.out.2 (by rw[World.size_alloc];have:=tF.out.aB.size;omega) ?_;intro v' wp ho hg hn;obtain⟨B1,d1,rfl,_⟩:=aL ho;have nT:=Lib.hid (tF.out.ajh ho hg hn);clear ho hg hn hnx j0 j1 j2 j3' j4 hit;obtain⟨p0,p1,p2,p3,p4⟩:=nT.out.box;have p3':=p3 0;clear p3);have HSQ:=ah (nT.out.set1 (.slice B1 (m+1) d1)).drew;clear p0 p1 p2 p3' p4;refine wp_region_any (by kernel_rfl) ?_;change wpAny _ _ _ _ _ _ _ (World.drew _);obtain⟨wq,hwq⟩:∃wq,(wp.setCell ⟨w1.heap.size,0,none⟩ (.slice B1 (m+1) d1)).drew=wq:=⟨_,rfl⟩
   rw[hwq]at HSQ⊢;clear hwq;obtain⟨y0,y1,y2,y3,y4⟩:=HSQ.out.box;clear y3;refine wpAny_take (i:=0) (v:= ?_) rfl (by kernel_rfl) (by kernel_rfl) (by kernel_rfl) (λ_ _ _ h=>h) (Or.inl ⟨by kernel_rfl,?_⟩) ?_;rotate_left;·intro w;go_simp;try with_reducible rfl
   (try simp only[Act.put]);(try simp only[bn]);(try simp only[aQ]);(try simp only[aP]);refine wpAny_take (i:=2) (v:= ?_) rfl (by kernel_rfl) (by kernel_rfl) (by kernel_rfl) (λ_ _ _ h=>h) (Or.inl ⟨by kernel_rfl,?_⟩) ?_;rotate_left;·intro w;go_simp;try with_reducible rfl
   (try simp only[Act.put]);(try simp only[bn]);(try simp only[aQ]);(try simp only[aP]);refine wpAny_take (i:=3) (v:= ?_) rfl (by kernel_rfl) (by kernel_rfl) (by kernel_rfl) (λ_ _ _ h=>h) (Or.inl ⟨by kernel_rfl,?_⟩) ?_;rotate_left;·intro w;go_simp;try with_reducible rfl
   (try simp only[Act.put]);(try simp only[bn]);(try simp only[aQ]);(try simp only[aP]);refine kG (rs:=[1,4]) (by kernel_rfl) (by simp) ?_;refine jB rfl (λK hK=> ?_) ?_
   ·go_simp;refine hK _ _ ?_;clear hK K;refine kG (rs:=[4]) (by kernel_rfl) (by simp) ?_;refine jB rfl (λK hK=> ?_) ?_
    ·go_simp;refine(QV iy DW r _ _ rfl (by decide+kernel) _ (zA HD.out HSQ.out.aB)).mono ?_;rintro x wz ⟨rfl,hbz⟩;rw[HCX.out];have sV:=ah (HSQ.out.below hbz);clear hbz;obtain⟨z0,z1,z2,z3,z4⟩:=sV.out.box;dsimp only;refine hK _ _ ?_;clear hK K;refine kG (rs:=[5]) (by kernel_rfl) (by simp) ?_;refine jB rfl (λK hK=> ?_) ?_
     ·go_simp;refine hK _ _ ?_;clear hK K;refine kG (rs:=[6]) (by kernel_rfl) (by simp) ?_;refine jB rfl (λK hK=> ?_) ?_
      ·skip;refine Lc _ (.tmp 30) (.tmp 34) 41 rfl w1.heap.size 3 i0 _ 8 Tryz.underlying41 hI0 hz0 hz1 hz2 rfl (.slice A2 m c2) m (bD cls) rfl sV.out.QX (some ⟨wz.heap.size,0,none⟩) 1 1 [.int .i64 cx] rfl (bY _ _ _) (by simp[Value.oneCell']) HLEN.out.1 HLEN.out.2 (by rw[World.size_alloc];have:=sV.out.aB.size;omega) ?_;intro v' wq ho hg hn;obtain⟨B2,d2,rfl,_⟩:=aL ho;have HSR:=ah (sV.out.Zn ho hg hn);clear ho hg hn;obtain⟨q0,q1,q2,q3,q4⟩:=HSR.out.box;have q3':=q3 1;clear q3;refine hK _ _ ?_;clear hK K;refine wpAny_take (i:=7) (v:= ?_) rfl (by kernel_rfl) (by kernel_rfl) (by kernel_rfl) (λ_ _ _ h=>h) (Or.inl ⟨by kernel_rfl,?_⟩) ?_;rotate_left
       ·intro w;go_simp;try with_reducible rfl
       (try simp only[Act.put]);(try simp only[bn]);(try simp only[aQ]);(try simp only[aP]);refine kG (rs:=[8]) (by kernel_rfl) (by simp) ?_;refine jB rfl (λK hK=> ?_) ?_;·go_simp;refine hK _ _ ?_;clear hK K;refine wpAny_done (by kernel_rfl) ?_ _;go_wp2_with fail;exact KEY.out _ _ _ _ _ (HSR.out.set2 _)
       exact kF
      exact kF
     exact kF
    exact kF
   refine jB rfl (λK hK=> ?_) ?_
   ·go_simp;refine(QV iy DW r _ _ rfl (by decide+kernel) _ (zA HD.out HSQ.out.aB)).mono ?_;rintro x wz ⟨rfl,hbz⟩;rw[HCX.out];have sV:=ah (HSQ.out.below hbz);clear hbz;obtain⟨z0,z1,z2,z3,z4⟩:=sV.out.box;dsimp only;refine hK _ _ ?_;clear hK K;refine kG (rs:=[1,5]) (by kernel_rfl) (by simp) ?_;refine jB rfl (λK hK=> ?_) ?_
    ·go_simp;refine hK _ _ ?_;clear hK K;refine kG (rs:=[5]) (by kernel_rfl) (by simp) ?_;refine jB rfl (λK hK=> ?_) ?_
     ·go_simp;refine hK _ _ ?_;clear hK K;refine kG (rs:=[6]) (by kernel_rfl) (by simp) ?_;refine jB rfl (λK hK=> ?_) ?_
      ·skip;refine Lc _ (.tmp 30) (.tmp 34) 41 rfl w1.heap.size 3 i0 _ 8 Tryz.underlying41 hI0 hz0 hz1 hz2 rfl (.slice A2 m c2) m (bD cls) rfl sV.out.QX (some ⟨wz.heap.size,0,none⟩) 1 1 [.int .i64 cx] rfl (bY _ _ _) (by simp[Value.oneCell']) HLEN.out.1 HLEN.out.2 (by rw[World.size_alloc];have:=sV.out.aB.size;omega) ?_;intro v' wq ho hg hn;obtain⟨B2,d2,rfl,_⟩:=aL ho;have HSR:=ah (sV.out.Zn ho hg hn);clear ho hg hn;obtain⟨q0,q1,q2,q3,q4⟩:=HSR.out.box;have q3':=q3 1;clear q3;refine hK _ _ ?_;clear hK K;refine wpAny_take (i:=7) (v:= ?_) rfl (by kernel_rfl) (by kernel_rfl) (by kernel_rfl) (λ_ _ _ h=>h) (Or.inl ⟨by kernel_rfl,?_⟩) ?_;rotate_left
       ·intro w;go_simp;try with_reducible rfl
       (try simp only[Act.put]);(try simp only[bn]);(try simp only[aQ]);(try simp only[aP]);refine kG (rs:=[8]) (by kernel_rfl) (by simp) ?_;refine jB rfl (λK hK=> ?_) ?_;·go_simp;refine hK _ _ ?_;clear hK K;refine wpAny_done (by kernel_rfl) ?_ _;go_wp2_with fail;exact KEY.out _ _ _ _ _ (HSR.out.set2 _)
       exact kF
      exact kF
     exact kF
    refine jB rfl (λK hK=> ?_) ?_
    ·go_simp;refine hK _ _ ?_;clear hK K;refine kG (rs:=[1]) (by kernel_rfl) (by simp) ?_;refine jB rfl (λK hK=> ?_) ?_
     ·go_simp;refine hK _ _ ?_;clear hK K;refine kG (rs:=[6]) (by kernel_rfl) (by simp) ?_;refine jB rfl (λK hK=> ?_) ?_
      ·skip;refine Lc _ (.tmp 30) (.tmp 34) 41 rfl w1.heap.size 3 i0 _ 8 Tryz.underlying41 hI0 hz0 hz1 hz2 rfl (.slice A2 m c2) m (bD cls) rfl sV.out.QX (some ⟨wz.heap.size,0,none⟩) 1 1 [.int .i64 cx] rfl (bY _ _ _) (by simp[Value.oneCell']) HLEN.out.1 HLEN.out.2 (by rw[World.size_alloc];have:=sV.out.aB.size;omega) ?_;intro v' wq ho hg hn;obtain⟨B2,d2,rfl,_⟩:=aL ho;have HSR:=ah (sV.out.Zn ho hg hn);clear ho hg hn;obtain⟨q0,q1,q2,q3,q4⟩:=HSR.out.box;have q3':=q3 1;clear q3;refine hK _ _ ?_;clear hK K;refine wpAny_take (i:=7) (v:= ?_) rfl (by kernel_rfl) (by kernel_rfl) (by kernel_rfl) (λ_ _ _ h=>h) (Or.inl ⟨by kernel_rfl,?_⟩) ?_;rotate_left
       ·intro w;go_simp;try with_reducible rfl
       (try simp only[Act.put]);(try simp only[bn]);(try simp only[aQ]);(try simp only[aP]);refine kG (rs:=[8]) (by kernel_rfl) (by simp) ?_;refine jB rfl (λK hK=> ?_) ?_;·go_simp;refine hK _ _ ?_;clear hK K;refine wpAny_done (by kernel_rfl) ?_ _;go_wp2_with fail;exact KEY.out _ _ _ _ _ (HSR.out.set2 _)
       exact kF
      exact kF
     exact kF
    exact kF
   exact kF
  ·obtain rfl:e=s.size:=by omega
   have hz:aD t f s.size=[]:=by
    cases f with
    |zero=>rfl
    |succ f=>unfold aD;rw[aj (by have:=lI.out;omega)]
   rw[hz,List.map_nil,fq]at hla hlc;subst hla;subst hlc;clear hz;obtain⟨j0,j1,j2,j3,j4⟩:=hSL.box;have hW1:W.heap.size<w1.heap.size:=by have:=HB.out.size;rw[fK]at this;omega
   have hblk:wr.heap[W.heap.size]? =some (.cells #[.slice none 0 0, .slice none 0 0, .int .i64 0] 163 (0,0)):=(hSL.aB.block _ hW1).trans ((HB.out.block _ (by simp)).trans (cO W _));have r0:=bA wr W.heap.size 0 _ _ _ hblk;have r1:=bA wr W.heap.size 1 _ _ _ hblk;have r2:=bA wr W.heap.size 2 _ _ _ hblk;have f0:=frozen_of_row wr W.heap.size 0 _ _ hblk;have f1:=frozen_of_row wr W.heap.size 1 _ _ hblk;have f2:=frozen_of_row wr W.heap.size 2 _ _ hblk;have h3:=bU hblk;have hnx:=λty=>run_next_end_at (P:=Tryz.prog) wr _ s s.size ty hit hlt;have HBW:=ah (HB.out.trans (hSL.aB.mono HB.out.size));have anG:=ah hblk;have HM:=ah hm;clear j3 hblk hSL hf he hm hlt;go_wp2_with fail;have hh:=uF _ _ 2 _ _ (.int .i64 (s.size:Int)) (uF _ _ 1 _ _ (.slice A2 m c2) (uF wr _ 0 _ _ (.slice A1 m c1) anG.out));refine qZ (results_cell_row rfl _ _ W.heap.size _ _ _ _ rfl hh Tryz.underlying163 rfl (by kernel_rfl)) rfl ?_;have hmm:m<=100000:=by have:=HM.out;have:=lI.out;have:=TF.out;omega
   refine⟨A1,m,c1,A2,c2,by have:=HM.out;have:=lI.out;have:=TF.out;omega,by rw[<-lI.out];rfl,gM (base:=w1.heap.size) (c:=c1) ?_ hmm,gM (base:=w1.heap.size) (c:=c2) ?_ hmm,?_⟩;·exact xX (xX (xX HSL.out.o1 hW1 _) hW1 _) hW1 _
   ·exact xX (xX (xX HSL.out.o2 hW1 _) hW1 _) hW1 _
   ·have hb0:Below W.heap.size W w1:=((aF _ W).alloc (ay _) _).trans (HB.out.mono (by simp));have hb1:Below W.heap.size W wr:=hb0.trans (HSL.out.aB.mono (dD hW1));exact((hb1.setCell (ay _) _).setCell (ay _) _).setCell (ay _) _
end
structure BL (w1:World) (x1 x2:Value) (L:Int) (v:Value) (m:Nat) (zs:List Int) (w:World):Prop where
 aB:Below w1.heap.size w1 w
 blk:w.heap[w1.heap.size]? =some (.cells #[x1,x2, .int .i64 L] 163 (0,0))
 own:w.ownsRow w1.heap.size 3 1 v m (bD zs)
section
variable {w1 w w':World} {x1 x2 v:Value} {L:Int} {m:Nat} {zs:List Int}
theorem BL.below (h:BL w1 x1 x2 L v m zs w) (hb:Below w.heap.size w w'):BL w1 x1 x2 L v m zs w':=
 ⟨h.aB.trans (hb.mono h.aB.size),bM hb h.blk,own_below hb h.own⟩
theorem BL.eF (h:BL w1 x1 x2 L v m zs w) {o:Obj}:(w.alloc o).ownsRow w1.heap.size 3 1 v m (bD zs):=dZ h.own
theorem BL.box (h:BL w1 x1 x2 L v m zs w):w.cell? ⟨w1.heap.size,0,none⟩=some x1/\w.cell? ⟨w1.heap.size,1,none⟩=some x2/\w.cell? ⟨w1.heap.size,2,none⟩=some (.int .i64 L)/\w1.heap.size<w.heap.size:=
 ⟨by rw[bA _ _ _ _ _ _ h.blk];rfl,by rw[bA _ _ _ _ _ _ h.blk];rfl,by rw[bA _ _ _ _ _ _ h.blk];rfl,bU h.blk⟩
theorem BL.grow (h:BL w1 x1 x2 L v m zs w) {o:Obj} {v':Value} {x:Int} (ho:w'.ownsRow w1.heap.size 3 1 v' (m+1) (bD zs++[.int .i64 x])) (hg:(w.alloc o).grownBy w' v.ownBlock):BL w1 x1 x2 L v' (m+1) (zs++[x]) w':=by have h':=h.below ((aF _ w).alloc (ay _) o);refine⟨h'.aB.grown hg h'.aB.size (λk hk=>(bB h'.own hk).1),?_,by rw[kZ];exact ho⟩;rw[hg.block _ (bU h'.blk) (own_ne h'.own h'.blk (λ_ h=>by injection h with _ h;exact absurd h (by decide)))];exact h'.blk
end
theorem ajj {m e n:Nat} (h1:m<=e) (h2:e<=n) (h3:n<=100000):m+1<=maxLen/\(m+1)*8<=0x800000000000:=⟨by simp only[maxLen];omega,by omega⟩
def GY (cls ats:List Int):Nat->Nat->List Int
 |0,_=>[]
 |f+1,k=>if k=0\/GX cls k=true then ats.getD k 0::GY cls ats f (k+1)else GY cls ats f (k+1)
def qm (t:List UInt8):List Int:=GY (QY t) (eG t) (marks t).length 0++if 0<t.length then[(t.length:Int)]else[]
def DX (t:List UInt8) (W:World) (e:Ending) (w':World):Prop:=∃A n c,e= .returned (.slice A n c)/\bQ w' A n (qm t)/\(∀a,A=some a->W.heap.size<=a.block)/\Below W.heap.size W w'
theorem QZ (t:List UInt8) (W:World) (hN:∀w,Below W.heap.size W w->acD w) (hn:t.length<=10000):Calls Tryz.prog 52 #[.string ⟨t.toArray⟩] W (DX t W):=by
 have HSC:=ah (Zo t W hN hn);obtain⟨s,hs⟩:∃s:ByteArray,(⟨t.toArray⟩:ByteArray)=s:=⟨_,rfl⟩
 have hss:s.size<=10000:=by rw[size_mk t s hs];exact hn
 rw[hs]at HSC⊢;have lI:=ah hss;have HSL:=ah (size_mk t s hs);clear hs hss hN hn;obtain⟨i0,hI0,hz0,hz1,hz2⟩:=eD gK;go_enter Tryz.func52,Tryz.ntmps52;go_wp2_with (go_at_call 100;refine HSC.out.mono ?_;rintro e w1 ⟨A1,m,c1,A2,c2,hm4,rfl,h1,h2,hb⟩;have H1:=ah h1;have H2:=ah h2;have HB:=ah hb;clear h1 h2 hb);obtain⟨ats,agj⟩:∃l,eG t=l:=⟨_,rfl⟩
 obtain⟨cls,hcls⟩:∃l,QY t=l:=⟨_,rfl⟩
 obtain⟨Z,hZ⟩:∃Z,GY cls ats m 0=Z:=⟨_,rfl⟩
 have hml:(marks t).length=m:=by rw[<-H1.out.len];unfold eG;rw[dG]
 have HWB:=ah (show qm t=Z++if 0<t.length then[(t.length:Int)]else[]by unfold qm;rw[agj,hcls,hml,hZ]);rw[agj]at H1;rw[hcls]at H2;have HZ:=ah hZ;clear agj hcls hZ hml;obtain⟨L,hL⟩:∃L:Int,(t.length:Int)=L:=⟨_,rfl⟩
 rw[hL];clear hL;have hsm:=H1.out.small;go_loopw [12,4] (λvi vo wr=>∃(k mo f:Nat) (Ao:Option Addr) (co:Nat) (zs:List Int),k+f=m/\zs++GY cls ats f k=Z/\vi= .int .i64 k/\vo= .slice Ao mo co/\mo<=k/\BL w1 (.slice A1 m c1) (.slice A2 m c2) L (.slice Ao mo co) mo zs wr) (λvi _ _=>m-(RowKit.intOf vi).toNat);case atStart=>exact⟨0,0,m,none,0,[],bL _,HZ.out,rfl,rfl,ay _,(aF _ w1).alloc (ay _) _,cO w1 _,⟨rfl, .inl ⟨rfl,rfl⟩⟩⟩
 case round=>
  obtain⟨k,mo,f,Ao,co,zs,hkf,hzz,rfl,rfl,hmo,hBL⟩:=hrel;have hk:k<=m:=by omega
  have zN:=ah hBL;clear hBL;by_cases hlt:k<m
  ·obtain⟨g1,o1,rfl,hg1,hc1⟩:=H1.out.at_ (by omega);obtain⟨g2,o2,rfl,hg2,hc2⟩:=H2.out.at_ (by omega);have ca:wr.cell? ⟨g1,o1+k,none⟩=some (.int .i64 (ats.getD k 0)):=(zN.out.aB.cell (p:=⟨g1,o1+k,none⟩) hg1).trans (hc1 k hlt);obtain⟨a,ha⟩:∃a,ats.getD k 0=a:=⟨_,rfl⟩
   rw[ha]at ca;obtain⟨f',rfl⟩:∃f',f=f'+1:=⟨f-1,by omega⟩
   unfold GY at hzz;rw[ha]at hzz;have TD:=ah (sU.below ⟨H2.out.len,H2.out.small,hg2,hc2⟩ hg2 zN.out.aB);clear ha hc1 hc2 hg1 hg2;obtain⟨b0,b1,b2,b3⟩:=zN.out.box;have HLEN:=ah (ajj hmo hk hsm);obtain⟨k',hk'⟩:∃k',k+1=k':=⟨_,rfl⟩
   have hwk:(k:Int)+1=(k':Int):=by omega
   have jX:=ah hwk;clear hwk;have KEY:=ah (λ(Zq:Nat) (Ao':Option Addr) (co':Nat) (zs':List Int) (w':World) (hz':zs'++GY cls ats f' k'=Z) (h1:Zq<=k') (h:BL w1 (.slice (some ⟨g1,o1,none⟩) m c1) (.slice (some ⟨g2,o2,none⟩) m c2) L (.slice Ao' Zq co') Zq zs' w')=>
    show(∃(k mo f:Nat) (Ao:Option Addr) (co:Nat) (zs:List Int),k+f=m/\zs++GY cls ats f k=Z/\Value.int .i64 (k':Int)= .int .i64 k/\Value.slice Ao' Zq co'= .slice Ao mo co/\mo<=k/\BL w1 (.slice (some ⟨g1,o1,none⟩) m c1) (.slice (some ⟨g2,o2,none⟩) m c2) L (.slice Ao mo co) mo zs w')/\m-(RowKit.intOf (.int .i64 (k':Int))).toNat<m-(RowKit.intOf (.int .i64 (k:Int))).toNat from
     ⟨⟨k',Zq,f',Ao',co',zs',by omega,hz',rfl,rfl,h1,h⟩,by simp[RowKit.intOf];omega⟩)
   rw[hk']at hzz;have hmk:mo+1<=k':=by omega
   have ajl:mo<=k':=by omega
   have HMK:=ah (And.intro hmk ajl);clear hmk ajl hmo hk hk' hkf;rcases kN k with h0|h0
   ·rw[ak (Or.inl h0)]at hzz;have HZZ:=ah (show(zs++[a])++GY cls ats f' k'=Z by rw[dR];exact hzz);clear hzz;have hk0:((k:Int)==0)=true:=by simp[h0]
    have hk1:(k:Int)=0:=by omega
    have HK1:=ah hk1;clear hk1 h0;go_wp2_with (at_builtin;refine aY _ rfl (.tmp 24) (.tmp 26) 41 rfl w1.heap.size 3 i0 _ 8 Tryz.underlying41 hI0 hz0 hz1 hz2 rfl (.slice Ao mo co) mo (bD zs) rfl zN.out.eF _ 1 1 [.int .i64 a] rfl (bY _ _ _) (by simp[Value.oneCell']) HLEN.out.1 HLEN.out.2 (by rw[World.size_alloc];have:=zN.out.aB.size;omega) ?_;intro v' wp ho hg hn;obtain⟨B1,d1,rfl,_⟩:=aL ho;have HBG:=Lib.hid (zN.out.grow ho hg);clear ho hg hn ca b0 b1 b2 b3);rw[jX.out];exact KEY.out _ _ _ _ _ HZZ.out HMK.out.1 HBG.out
   ·have HZZ:=ah hzz;clear hzz;have hk0:((k:Int)==0)=false:=by simp;omega
    have hk1:¬(k:Int)=0:=by omega
    go_wp2_with (first|(go_at_call 101;refine(acC cls _ _ _ _ _ _ _ _ k _ TD.out h0 hlt).mono ?_;rintro e w2 ⟨rfl,hb⟩;have zN:=Lib.hid (zN.out.below hb);clear hb;cases hcb:GX cls k<;>(have HCB:=Lib.hid hcb;clear hcb))|(at_builtin;refine aY _ rfl (.tmp 24) (.tmp 26) 41 rfl w1.heap.size 3 i0 _ 8 Tryz.underlying41 hI0 hz0 hz1 hz2 rfl (.slice Ao mo co) mo (bD zs) rfl zN.out.eF _ 1 1 [.int .i64 a] rfl (bY _ _ _) (by simp[Value.oneCell']) HLEN.out.1 HLEN.out.2 (by rw[World.size_alloc];have:=zN.out.aB.size;omega) ?_;intro v' wp ho hg hn;obtain⟨B1,d1,rfl,_⟩:=aL ho;have HBG:=Lib.hid (zN.out.grow ho hg);clear ho hg hn ca b0 b1 b2 b3));·rw[jX.out];exact KEY.out _ _ _ _ _ (by have:=HZZ.out;rwa [aj (λh=>h.elim (λh=>by omega) (λh=>by rw[HCB.out]at h;exact vU h))]at this) HMK.out.2 zN.out
    ·rw[jX.out];exact KEY.out _ _ _ _ _ (by have:=HZZ.out;rw[ak (Or.inr HCB.out)]at this;rw[dR];exact this) HMK.out.1 HBG.out
  ·obtain rfl:k=m:=by omega
   obtain rfl:f=0:=by omega
   have hzZ:zs=Z:=by rw[<-hzz];exact(fq zs).symm
   subst hzZ;clear hzz;have HLEN:=ah (ajj hmo hk hsm);have HMO:=ah (show mo+1<=100000 by omega);have ajn:=ah (λ(A:Option Addr) (n c:Nat) (z:List Int) (w':World) (hn:n<=100000) (hz:z=qm t) (h:BL w1 (.slice A1 k c1) (.slice A2 k c2) L (.slice A n c) n z w')=>
    show DX t W (.returned (.slice A n c)) w' from
     ⟨A,n,c,rfl,hz▸gM h.own hn,λa ha=>by subst ha;exact aS HB.out.size (bB h.own rfl).1,HB.out.trans (h.aB.mono HB.out.size)⟩)
   clear hk hlt hmo hsm hm4;by_cases hs0:0<s.size;·go_wp2_with (at_builtin;refine aY _ rfl (.tmp 32) (.tmp 35) 41 rfl w1.heap.size 3 i0 _ 8 Tryz.underlying41 hI0 hz0 hz1 hz2 rfl (.slice Ao mo co) mo (bD zs) rfl zN.out.eF _ 1 1 [.int .i64 s.size] rfl (bY _ _ _) (by simp[Value.oneCell']) HLEN.out.1 HLEN.out.2 (by rw[World.size_alloc];have:=zN.out.aB.size;omega) ?_;intro v' wp ho hg hn;obtain⟨B1,d1,rfl,_⟩:=aL ho;have HBG:=Lib.hid (zN.out.grow ho hg);clear ho hg hn);go_ret;exact ajn.out _ _ _ _ _ HMO.out (by rw[HWB.out,ak (by rw[<-HSL.out];exact hs0),HSL.out]) HBG.out
   ·skip;go_wp2_with fail;go_ret;exact ajn.out _ _ _ _ _ (Nat.le_of_succ_le HMO.out) (by rw[HWB.out,aj (by rw[<-HSL.out];exact hs0),fq]) zN.out
