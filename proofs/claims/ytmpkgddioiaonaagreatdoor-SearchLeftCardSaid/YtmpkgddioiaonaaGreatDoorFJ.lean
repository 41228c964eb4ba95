/- SearchLeft, walked: word's tests of classes, letters, back, of, on, regions, cut. -/
import Derived.Test.YtmpkgddioiaonaaGreatDoorFB
import Derived.Deep.DeepCutAuto
import Derived.IntWalk
import Derived.Test.YtmpkgddioiaonaaGreatDoorFC
import Derived.BigQuiet
namespace Go.Proofs.YtmpkgddioiaonaaGreatDoor.searchLeft
section
open Go.Shelf Go.RowKit Go.Lib Go.Proofs.YtmpkgddioiaonaaGreatDoor.Am
def endsF (c : Int) : Bool := c == 3 || c == 1 || c == 2
def hangsF (c : Int) : Bool := c == 4 || c == 6 || c == 5
def letF (c : Int) : Bool := c == 10 || c == 9
def inWF (c : Int) : Bool := c == 14 || c == 13 || c == 11
def inNF (c : Int) : Bool := c == 15 || c == 13 || c == 11
def joinF (c : Int) : Bool := letF c || c == 16 || c == 8
def BPost (b : Bool) (W : World) (e : Ending) (w' : World) : Prop := e = .returned (.bool b) ∧ w' = W
theorem ends_ok (c : Int) (W : World) : Calls Tryz.prog 74 #[.int .i64 c] W (BPost (endsF c) W) := by
 unfold endsF
 by_cases h1 : c = 3
 ·subst h1; go_enter Tryz.func74, Tryz.ntmps74; go_wp2; go_ret; exact ⟨rfl, rfl⟩
 ·by_cases h2 : c = 1
  ·subst h2; go_enter Tryz.func74, Tryz.ntmps74; go_wp2; go_ret; exact ⟨rfl, rfl⟩
  ·go_enter Tryz.func74, Tryz.ntmps74; go_wp2; go_ret; exact ⟨by first | rfl | simp [h1, h2], rfl⟩
theorem hangs_ok (c : Int) (W : World) : Calls Tryz.prog 75 #[.int .i64 c] W (BPost (hangsF c) W) := by
 unfold hangsF
 by_cases h1 : c = 4
 ·subst h1; go_enter Tryz.func75, Tryz.ntmps75; go_wp2; go_ret; exact ⟨rfl, rfl⟩
 ·by_cases h2 : c = 6
  ·subst h2; go_enter Tryz.func75, Tryz.ntmps75; go_wp2; go_ret; exact ⟨rfl, rfl⟩
  ·go_enter Tryz.func75, Tryz.ntmps75; go_wp2; go_ret; exact ⟨by first | rfl | simp [h1, h2], rfl⟩
theorem lettered_ok (c : Int) (W : World) : Calls Tryz.prog 111 #[.int .i64 c] W (BPost (letF c) W) := by
 unfold letF
 by_cases h1 : c = 10
 ·subst h1; go_enter Tryz.func111, Tryz.ntmps111; go_wp2; go_ret; exact ⟨rfl, rfl⟩
 ·go_enter Tryz.func111, Tryz.ntmps111; go_wp2; go_ret; exact ⟨by first | rfl | simp [h1], rfl⟩
theorem inWord_ok (c : Int) (W : World) : Calls Tryz.prog 112 #[.int .i64 c] W (BPost (inWF c) W) := by
 unfold inWF
 by_cases h1 : c = 14
 ·subst h1; go_enter Tryz.func112, Tryz.ntmps112; go_wp2; go_ret; exact ⟨rfl, rfl⟩
 ·by_cases h2 : c = 13
  ·subst h2; go_enter Tryz.func112, Tryz.ntmps112; go_wp2; go_ret; exact ⟨rfl, rfl⟩
  ·go_enter Tryz.func112, Tryz.ntmps112; go_wp2; go_ret; exact ⟨by first | rfl | simp [h1, h2], rfl⟩
theorem inNumber_ok (c : Int) (W : World) : Calls Tryz.prog 113 #[.int .i64 c] W (BPost (inNF c) W) := by
 unfold inNF
 by_cases h1 : c = 15
 ·subst h1; go_enter Tryz.func113, Tryz.ntmps113; go_wp2; go_ret; exact ⟨rfl, rfl⟩
 ·by_cases h2 : c = 13
  ·subst h2; go_enter Tryz.func113, Tryz.ntmps113; go_wp2; go_ret; exact ⟨rfl, rfl⟩
  ·go_enter Tryz.func113, Tryz.ntmps113; go_wp2; go_ret; exact ⟨by first | rfl | simp [h1, h2], rfl⟩
theorem wjoined_ok (c : Int) (W : World) : Calls Tryz.prog 114 #[.int .i64 c] W (BPost (joinF c) W) := by
 unfold joinF
 cases h : letF c with
 | true =>
   go_enter Tryz.func114, Tryz.ntmps114
   go_wp2_with (go_at_call 111; refine (lettered_ok c _).mono ?_; rintro e w1 ⟨rfl, rfl⟩; rw [h])
   go_ret
   exact ⟨rfl, rfl⟩
 | false =>
   by_cases h1 : c = 16
   ·subst h1
    go_enter Tryz.func114, Tryz.ntmps114
    go_wp2_with (go_at_call 111; refine (lettered_ok 16 _).mono ?_; rintro e w1 ⟨rfl, rfl⟩; rw [h])
    go_ret
    exact ⟨rfl, rfl⟩
   ·go_enter Tryz.func114, Tryz.ntmps114
    go_wp2_with (go_at_call 111; refine (lettered_ok c _).mono ?_; rintro e w1 ⟨rfl, rfl⟩; rw [h])
    go_ret
    exact ⟨by first | rfl | simp [h1], rfl⟩
end
section
open Go.Shelf Go.RowKit Go.Lib Go.Proofs.YtmpkgddioiaonaaGreatDoor.Am
def l1F (a q : Int) : Bool := letF a && letF q
def l2F (a q n : Int) : Bool := letF a && inWF q && letF n
def l3F (z a q : Int) : Bool := letF z && inWF a && letF q
def h1F (a q : Int) : Bool := a == 9 && q == 11
def h2F (a q n : Int) : Bool := a == 9 && q == 12 && n == 9
def h3F (z a q : Int) : Bool := z == 9 && a == 12 && q == 9
def d1F (a q : Int) : Bool := a == 16 && (q == 16 || letF q)
def d2F (a q : Int) : Bool := letF a && q == 16
def n1F (z a q : Int) : Bool := z == 16 && inNF a && q == 16
def n2F (a q n : Int) : Bool := a == 16 && inNF q && n == 16
def k1F (a q : Int) : Bool := a == 8 && q == 8 || (joinF a || a == 17) && q == 17 || a == 17 && joinF q
def lettersF (z a q n : Int) : Bool := l1F a q || l2F a q n || l3F z a q || h1F a q || h2F a q n || h3F z a q || d1F a q || d2F a q || n1F z a q || n2F a q n || k1F a q
set_option maxRecDepth 100000 in
set_option maxHeartbeats 8000000 in
theorem letters_ok (z a q n : Int) (W : World) : Calls Tryz.prog 77 #[.int .i64 z, .int .i64 a, .int .i64 q, .int .i64 n] W (BPost (lettersF z a q n) W) := by
 unfold lettersF
 go_enter Tryz.func77, Tryz.ntmps77
 go_upto_region 1 with fail
 go_cut [9] (fun c wx => c = .bool (l1F a q) ∧ W = wx)
 case first =>
  cases h0 : letF a
  case false =>
   go_wp2_with (go_at_call 111; refine (lettered_ok _ _).mono ?_; rintro e w1 ⟨rfl, rfl⟩; try rw [h0])
   go_meet
   exact ⟨by unfold l1F; rw [h0]; rfl, rfl⟩
  case true =>
   go_wp2_with (go_at_call 111; refine (lettered_ok _ _).mono ?_; rintro e w1 ⟨rfl, rfl⟩; try rw [h0])
   go_meet
   exact ⟨by unfold l1F; rw [h0]; rfl, rfl⟩
 case rest =>
  obtain ⟨rfl, rfl⟩ := hcut
  cases e1 : l1F a q
  case true =>
   go_wp2_with fail
   go_ret
   exact ⟨by simp [e1], rfl⟩
  case false =>
   have E1 := Lib.hid e1; clear e1
   go_upto_region 2 with fail
   go_cut [9] (fun c wx => c = .bool (l2F a q n) ∧ W = wx)
   case first =>
    cases h1 : letF a
    case false =>
     go_wp2_with (go_at_call 111; refine (lettered_ok _ _).mono ?_; rintro e w1 ⟨rfl, rfl⟩; try rw [h1])
     go_meet
     exact ⟨by unfold l2F; rw [h1]; rfl, rfl⟩
    case true =>
     cases h2 : inWF q
     case false =>
      go_wp2_with (first | (go_at_call 112; refine (inWord_ok _ _).mono ?_; rintro e w1 ⟨rfl, rfl⟩; try rw [h2]) | (go_at_call 111; refine (lettered_ok _ _).mono ?_; rintro e w1 ⟨rfl, rfl⟩; try rw [h1]))
      go_meet
      exact ⟨by unfold l2F; rw [h1, h2]; rfl, rfl⟩
     case true =>
      go_wp2_with (first | (go_at_call 112; refine (inWord_ok _ _).mono ?_; rintro e w1 ⟨rfl, rfl⟩; try rw [h2]) | (go_at_call 111; refine (lettered_ok _ _).mono ?_; rintro e w1 ⟨rfl, rfl⟩; try rw [h1]))
      go_meet
      exact ⟨by unfold l2F; rw [h1, h2]; rfl, rfl⟩
   case rest =>
    obtain ⟨rfl, rfl⟩ := hcut
    cases e2 : l2F a q n
    case true =>
     go_wp2_with fail
     go_ret
     exact ⟨by simp [e2], rfl⟩
    case false =>
     have E2 := Lib.hid e2; clear e2
     go_upto_region 3 with fail
     go_cut [9] (fun c wx => c = .bool (l3F z a q) ∧ W = wx)
     case first =>
      cases h3 : letF z
      case false =>
       go_wp2_with (go_at_call 111; refine (lettered_ok _ _).mono ?_; rintro e w1 ⟨rfl, rfl⟩; try rw [h3])
       go_meet
       exact ⟨by unfold l3F; rw [h3]; rfl, rfl⟩
      case true =>
       cases h4 : inWF a
       case false =>
        go_wp2_with (first | (go_at_call 112; refine (inWord_ok _ _).mono ?_; rintro e w1 ⟨rfl, rfl⟩; try rw [h4]) | (go_at_call 111; refine (lettered_ok _ _).mono ?_; rintro e w1 ⟨rfl, rfl⟩; try rw [h3]))
        go_meet
        exact ⟨by unfold l3F; rw [h3, h4]; rfl, rfl⟩
       case true =>
        go_wp2_with (first | (go_at_call 112; refine (inWord_ok _ _).mono ?_; rintro e w1 ⟨rfl, rfl⟩; try rw [h4]) | (go_at_call 111; refine (lettered_ok _ _).mono ?_; rintro e w1 ⟨rfl, rfl⟩; try rw [h3]))
        go_meet
        exact ⟨by unfold l3F; rw [h3, h4]; rfl, rfl⟩
     case rest =>
      obtain ⟨rfl, rfl⟩ := hcut
      cases e3 : l3F z a q
      case true =>
       go_wp2_with fail
       go_ret
       exact ⟨by simp [e3], rfl⟩
      case false =>
       have E3 := Lib.hid e3; clear e3
       go_upto_region 5 with fail
       go_cut [36] (fun c wx => c = .bool (h1F a q) ∧ W = wx)
       case first =>
        by_cases h5 : a = 9
        ·subst h5
         go_wp2_with fail
         go_meet
         exact ⟨by unfold h1F; rfl, rfl⟩
        ·have b5 : (a == 9) = false := by simp [h5]
         go_wp2_with fail
         go_meet
         exact ⟨by unfold h1F; rw [b5]; rfl, rfl⟩
       case rest =>
        obtain ⟨rfl, rfl⟩ := hcut
        cases e5 : h1F a q
        case true =>
         go_wp2_with fail
         go_ret
         exact ⟨by simp [e5], rfl⟩
        case false =>
         have E5 := Lib.hid e5; clear e5
         go_upto_region 6 with fail
         go_cut [36] (fun c wx => c = .bool (h2F a q n) ∧ W = wx)
         case first =>
          by_cases h6 : a = 9
          ·subst h6
           by_cases h7 : q = 12
           ·subst h7
            go_wp2_with fail
            go_meet
            exact ⟨by unfold h2F; rfl, rfl⟩
           ·have b7 : (q == 12) = false := by simp [h7]
            go_wp2_with fail
            go_meet
            exact ⟨by unfold h2F; rw [b7]; rfl, rfl⟩
          ·have b6 : (a == 9) = false := by simp [h6]
           go_wp2_with fail
           go_meet
           exact ⟨by unfold h2F; rw [b6]; rfl, rfl⟩
         case rest =>
          obtain ⟨rfl, rfl⟩ := hcut
          cases e6 : h2F a q n
          case true =>
           go_wp2_with fail
           go_ret
           exact ⟨by simp [e6], rfl⟩
          case false =>
           have E6 := Lib.hid e6; clear e6
           go_upto_region 7 with fail
           go_cut [36] (fun c wx => c = .bool (h3F z a q) ∧ W = wx)
           case first =>
            by_cases h8 : z = 9
            ·subst h8
             by_cases h9 : a = 12
             ·subst h9
              go_wp2_with fail
              go_meet
              exact ⟨by unfold h3F; rfl, rfl⟩
             ·have b9 : (a == 12) = false := by simp [h9]
              go_wp2_with fail
              go_meet
              exact ⟨by unfold h3F; rw [b9]; rfl, rfl⟩
            ·have b8 : (z == 9) = false := by simp [h8]
             go_wp2_with fail
             go_meet
             exact ⟨by unfold h3F; rw [b8]; rfl, rfl⟩
           case rest =>
            obtain ⟨rfl, rfl⟩ := hcut
            cases e7 : h3F z a q
            case true =>
             go_wp2_with fail
             go_ret
             exact ⟨by simp [e7], rfl⟩
            case false =>
             have E7 := Lib.hid e7; clear e7
             go_upto_region 9 with fail
             go_cut [63] (fun c wx => c = .bool (d1F a q) ∧ W = wx)
             case first =>
              by_cases h10 : a = 16
              ·subst h10
               by_cases h11 : q = 16
               ·subst h11
                go_wp2_with fail
                go_meet
                exact ⟨by unfold d1F; rfl, rfl⟩
               ·have b11 : (q == 16) = false := by simp [h11]
                go_wp2_with (go_at_call 111; refine (lettered_ok _ _).mono ?_; rintro e w1 ⟨rfl, rfl⟩)
                go_meet
                exact ⟨by unfold d1F; rw [b11]; rfl, rfl⟩
              ·have b10 : (a == 16) = false := by simp [h10]
               go_wp2_with fail
               go_meet
               exact ⟨by unfold d1F; rw [b10]; rfl, rfl⟩
             case rest =>
              obtain ⟨rfl, rfl⟩ := hcut
              cases e9 : d1F a q
              case true =>
               go_wp2_with fail
               go_ret
               exact ⟨by simp [e9], rfl⟩
              case false =>
               have E9 := Lib.hid e9; clear e9
               go_upto_region 10 with fail
               go_cut [63] (fun c wx => c = .bool (d2F a q) ∧ W = wx)
               case first =>
                cases h12 : letF a
                case false =>
                 go_wp2_with (go_at_call 111; refine (lettered_ok _ _).mono ?_; rintro e w1 ⟨rfl, rfl⟩; try rw [h12])
                 go_meet
                 exact ⟨by unfold d2F; rw [h12]; rfl, rfl⟩
                case true =>
                 go_wp2_with (go_at_call 111; refine (lettered_ok _ _).mono ?_; rintro e w1 ⟨rfl, rfl⟩; try rw [h12])
                 go_meet
                 exact ⟨by unfold d2F; rw [h12]; rfl, rfl⟩
               case rest =>
                obtain ⟨rfl, rfl⟩ := hcut
                cases e10 : d2F a q
                case true =>
                 go_wp2_with fail
                 go_ret
                 exact ⟨by simp [e10], rfl⟩
                case false =>
                 have E10 := Lib.hid e10; clear e10
                 go_upto_region 12 with fail
                 go_cut [80] (fun c wx => c = .bool (n1F z a q) ∧ W = wx)
                 case first =>
                  by_cases h13 : z = 16
                  ·subst h13
                   cases h14 : inNF a
                   case false =>
                    go_wp2_with (go_at_call 113; refine (inNumber_ok _ _).mono ?_; rintro e w1 ⟨rfl, rfl⟩; try rw [h14])
                    go_meet
                    exact ⟨by unfold n1F; rw [h14]; rfl, rfl⟩
                   case true =>
                    go_wp2_with (go_at_call 113; refine (inNumber_ok _ _).mono ?_; rintro e w1 ⟨rfl, rfl⟩; try rw [h14])
                    go_meet
                    exact ⟨by unfold n1F; rw [h14]; rfl, rfl⟩
                  ·have b13 : (z == 16) = false := by simp [h13]
                   go_wp2_with fail
                   go_meet
                   exact ⟨by unfold n1F; rw [b13]; rfl, rfl⟩
                 case rest =>
                  obtain ⟨rfl, rfl⟩ := hcut
                  cases e12 : n1F z a q
                  case true =>
                   go_wp2_with fail
                   go_ret
                   exact ⟨by simp [e12], rfl⟩
                  case false =>
                   have E12 := Lib.hid e12; clear e12
                   go_upto_region 13 with fail
                   go_cut [80] (fun c wx => c = .bool (n2F a q n) ∧ W = wx)
                   case first =>
                    by_cases h15 : a = 16
                    ·subst h15
                     cases h16 : inNF q
                     case false =>
                      go_wp2_with (go_at_call 113; refine (inNumber_ok _ _).mono ?_; rintro e w1 ⟨rfl, rfl⟩; try rw [h16])
                      go_meet
                      exact ⟨by unfold n2F; rw [h16]; rfl, rfl⟩
                     case true =>
                      go_wp2_with (go_at_call 113; refine (inNumber_ok _ _).mono ?_; rintro e w1 ⟨rfl, rfl⟩; try rw [h16])
                      go_meet
                      exact ⟨by unfold n2F; rw [h16]; rfl, rfl⟩
                    ·have b15 : (a == 16) = false := by simp [h15]
                     go_wp2_with fail
                     go_meet
                     exact ⟨by unfold n2F; rw [b15]; rfl, rfl⟩
                   case rest =>
                    obtain ⟨rfl, rfl⟩ := hcut
                    cases e13 : n2F a q n
                    case true =>
                     go_wp2_with fail
                     go_ret
                     exact ⟨by simp [e13], rfl⟩
                    case false =>
                     have E13 := Lib.hid e13; clear e13
                     go_upto_region 15 with fail
                     by_cases h17 : a = 8
                     ·subst h17
                      by_cases h18 : q = 8
                      ·subst h18
                       go_wp2_with fail
                       go_ret
                       exact ⟨by unfold k1F; rw [E1.out, E2.out, E3.out, E5.out, E6.out, E7.out, E9.out, E10.out, E12.out, E13.out]; rfl, rfl⟩
                      ·have b18 : (q == 8) = false := by simp [h18]
                       cases h19 : joinF 8
                       case false =>
                        go_wp2_with (go_at_call 114; refine (wjoined_ok _ _).mono ?_; rintro e w1 ⟨rfl, rfl⟩; try rw [h19])
                        go_ret
                        exact ⟨by unfold k1F; rw [E1.out, E2.out, E3.out, E5.out, E6.out, E7.out, E9.out, E10.out, E12.out, E13.out, b18, h19]; rfl, rfl⟩
                       case true =>
                        by_cases h21 : q = 17
                        ·subst h21
                         go_wp2_with (go_at_call 114; refine (wjoined_ok _ _).mono ?_; rintro e w1 ⟨rfl, rfl⟩; try rw [h19])
                         go_ret
                         exact ⟨by unfold k1F; rw [E1.out, E2.out, E3.out, E5.out, E6.out, E7.out, E9.out, E10.out, E12.out, E13.out, b18, h19]; rfl, rfl⟩
                        ·have b21 : (q == 17) = false := by simp [h21]
                         go_wp2_with (go_at_call 114; refine (wjoined_ok _ _).mono ?_; rintro e w1 ⟨rfl, rfl⟩; try rw [h19])
                         go_ret
                         exact ⟨by unfold k1F; rw [E1.out, E2.out, E3.out, E5.out, E6.out, E7.out, E9.out, E10.out, E12.out, E13.out, b18, h19, b21]; rfl, rfl⟩
                     ·have b17 : (a == 8) = false := by simp [h17]
                      cases h23 : joinF a
                      case false =>
                       by_cases h24 : a = 17
                       ·subst h24
                        by_cases h25 : q = 17
                        ·subst h25
                         go_wp2_with (go_at_call 114; refine (wjoined_ok _ _).mono ?_; rintro e w1 ⟨rfl, rfl⟩; try rw [h23])
                         go_ret
                         exact ⟨by unfold k1F; rw [E1.out, E2.out, E3.out, E5.out, E6.out, E7.out, E9.out, E10.out, E12.out, E13.out, b17, h23]; rfl, rfl⟩
                        ·have b25 : (q == 17) = false := by simp [h25]
                         go_wp2_with (go_at_call 114; refine (wjoined_ok _ _).mono ?_; rintro e w1 ⟨rfl, rfl⟩; try rw [h23])
                         go_ret
                         exact ⟨by unfold k1F; rw [E1.out, E2.out, E3.out, E5.out, E6.out, E7.out, E9.out, E10.out, E12.out, E13.out, b17, h23, b25]; rfl, rfl⟩
                       ·have b24 : (a == 17) = false := by simp [h24]
                        go_wp2_with (go_at_call 114; refine (wjoined_ok _ _).mono ?_; rintro e w1 ⟨rfl, rfl⟩; try rw [h23])
                        go_ret
                        exact ⟨by unfold k1F; rw [E1.out, E2.out, E3.out, E5.out, E6.out, E7.out, E9.out, E10.out, E12.out, E13.out, b17, h23, b24]; rfl, rfl⟩
                      case true =>
                       by_cases h26 : q = 17
                       ·subst h26
                        go_wp2_with (go_at_call 114; refine (wjoined_ok _ _).mono ?_; rintro e w1 ⟨rfl, rfl⟩; try rw [h23])
                        go_ret
                        exact ⟨by unfold k1F; rw [E1.out, E2.out, E3.out, E5.out, E6.out, E7.out, E9.out, E10.out, E12.out, E13.out, b17, h23]; rfl, rfl⟩
                       ·have b26 : (q == 17) = false := by simp [h26]
                        by_cases h27 : a = 17
                        ·subst h27
                         go_wp2_with (go_at_call 114; refine (wjoined_ok _ _).mono ?_; rintro e w1 ⟨rfl, rfl⟩; try rw [h23])
                         go_ret
                         exact ⟨by unfold k1F; rw [E1.out, E2.out, E3.out, E5.out, E6.out, E7.out, E9.out, E10.out, E12.out, E13.out, b17, h23, b26]; rfl, rfl⟩
                        ·have b27 : (a == 17) = false := by simp [h27]
                         go_wp2_with (go_at_call 114; refine (wjoined_ok _ _).mono ?_; rintro e w1 ⟨rfl, rfl⟩; try rw [h23])
                         go_ret
                         exact ⟨by unfold k1F; rw [E1.out, E2.out, E3.out, E5.out, E6.out, E7.out, E9.out, E10.out, E12.out, E13.out, b17, h23, b26, b27]; rfl, rfl⟩
end
section
open Go.Shelf Go.RowKit Go.Lib Go.Proofs.YtmpkgddioiaonaaGreatDoor.Am
/-- a text's classes, in memory -/
structure ClsAt (w : World) (g o n : Nat) (cls : List Int) : Prop where
 len : cls.length = n
 small : n ≤ 100000
 blk : g < w.heap.size
 cell : ∀ j, j < n → w.cell? ⟨g, o + j, none⟩ = some (.int .i64 (cls.getD j 0))
theorem ClsAt.below {w w' : World} {g o n : Nat} {cls : List Int} (h : ClsAt w g o n cls) {B : Nat} (hB : g < B) (hb : Below B w w') : ClsAt w' g o n cls :=
 ⟨h.len, h.small, Nat.lt_of_lt_of_le h.blk hb.size, fun j hj => by rw [hb.cell (p := ⟨g, o + j, none⟩) hB]; exact h.cell j hj⟩
theorem ClsAt.alloc {w : World} {g o n : Nat} {cls : List Int} (h : ClsAt w g o n cls) (x : Obj) : ClsAt (w.alloc x) g o n cls := h.below h.blk ((Below.refl _ w).alloc (Nat.le_refl _) x)
/-- the number of the last rune ahead of one that hangs on nothing -/
def wbackN (cls : List Int) : Nat → Int
 | 0 => -1
 | k + 1 => if hangsF (cls.getD k 0) then wbackN cls k else k
def wbackF (cls : List Int) (i : Int) : Int := if 0 ≤ i then wbackN cls i.toNat else i - 1
theorem wbackN_lt (cls : List Int) : ∀ k, -1 ≤ wbackN cls k ∧ wbackN cls k < k
 | 0 => ⟨Int.le_refl _, by show (-1 : Int) < 0; decide⟩
 | k + 1 => by
   have := wbackN_lt cls k
   show -1 ≤ (if hangsF (cls.getD k 0) then wbackN cls k else (k : Int)) ∧ (if hangsF (cls.getD k 0) then wbackN cls k else (k : Int)) < ((k + 1 : Nat) : Int)
   split <;> omega
def wofF (cls : List Int) (i : Int) : Int := if i < 0 ∨ (cls.length : Int) ≤ i then -1 else cls.getD i.toNat 0
def skipN (cls : List Int) : Nat → Nat → Nat
 | 0, i => i
 | f + 1, i => if i < cls.length ∧ hangsF (cls.getD i 0) = true then skipN cls f (i + 1) else i
def wonF (cls : List Int) (i : Nat) : Int := wofF cls (skipN cls (cls.length - i) (i + 1))
def IPost (x : Int) (W : World) (e : Ending) (w' : World) : Prop := e = .returned (.int .i64 x) ∧ Below W.heap.size W w'
set_option maxRecDepth 100000 in
theorem back_at (cls : List Int) (A1 : Option Addr) (n1 c1 g o n c : Nat) (L : Int) (i : Nat) (W : World) (h : ClsAt W g o n cls) (hi : i ≤ n) :
 Calls Tryz.prog 76 #[.agg #[.slice A1 n1 c1, .slice (some ⟨g, o, none⟩) n c, .int .i64 L], .int .i64 i] W (IPost (wbackN cls i) W) := by
 have hgl := h.blk; have hsm := h.small
 have HC := Lib.hid h; clear h
 obtain ⟨i1, hi1⟩ : ∃ i1 : Int, (i : Int) - 1 = i1 := ⟨_, rfl⟩
 have hwi : wrap64 ((i : Int) - 1) = i1 := by unfold wrap64; omega
 go_enter Tryz.func76, Tryz.ntmps76
 go_wp2
 clear hwi
 go_loopw [1] (fun vi wr => ∃ k : Nat, k ≤ i ∧ vi = .int .i64 ((k : Int) - 1) ∧ wbackN cls k = wbackN cls i ∧ wr = W.alloc (.cells #[.slice A1 n1 c1, .slice (some ⟨g, o, none⟩) n c, .int .i64 L] 105)) (fun vi _ => (RowKit.intOf vi + 1).toNat)
 case atStart => exact ⟨i, Nat.le_refl _, by rw [hi1], rfl, rfl⟩
 case round =>
  obtain ⟨k, hk, rfl, hbk, rfl⟩ := hrel
  have HB := Lib.hid hbk; clear hbk
  cases k with
  | zero =>
    go_wp2
    go_ret
    exact ⟨by rw [← HB.out]; rfl, (Below.refl _ W).alloc (Nat.le_refl _) _⟩
  | succ j =>
    have hcell := HC.out.cell j (by omega)
    obtain ⟨x, hx⟩ : ∃ x, cls.getD j 0 = x := ⟨_, rfl⟩
    rw [hx] at hcell
    have HX := Lib.hid hx; clear hx
    have he : (((j + 1 : Nat) : Int) - 1) = (j : Int) := by omega
    rw [he]
    have hwj : wrap64 ((j : Int) - 1) = (j : Int) - 1 := by unfold wrap64; omega
    have hj2 : j < n := by omega
    cases hh : hangsF x with
    | true =>
      go_wp2_with (go_at_call 75; refine (hangs_ok _ _).mono ?_; rintro e w1 ⟨rfl, rfl⟩; rw [hh])
      refine ⟨⟨j, by omega, by first | rfl | (congr 1; omega), ?_, by first | rfl | trivial⟩, by simp [RowKit.intOf] <;> omega⟩
      rw [← HB.out]
      show _ = if hangsF (cls.getD j 0) then _ else _
      rw [HX.out, hh]
      rfl
    | false =>
      go_wp2_with (go_at_call 75; refine (hangs_ok _ _).mono ?_; rintro e w1 ⟨rfl, rfl⟩; rw [hh])
      go_ret
      refine ⟨?_, (Below.refl _ W).alloc (Nat.le_refl _) _⟩
      rw [← HB.out]
      show _ = Ending.returned (.int .i64 (if hangsF (cls.getD j 0) then _ else _))
      rw [HX.out, hh]
      rfl
set_option maxRecDepth 100000 in
theorem back_neg (A1 : Option Addr) (n1 c1 g o n c : Nat) (L i : Int) (W : World) (hi : i < 0) (hi2 : -100 < i) :
 Calls Tryz.prog 76 #[.agg #[.slice A1 n1 c1, .slice (some ⟨g, o, none⟩) n c, .int .i64 L], .int .i64 i] W (IPost (i - 1) W) := by
 obtain ⟨x, hx⟩ : ∃ x : Int, i - 1 = x := ⟨_, rfl⟩
 have hwi : wrap64 (i - 1) = x := by unfold wrap64; omega
 rw [hx]
 have hx0 : ¬ 0 ≤ x := by omega
 go_enter Tryz.func76, Tryz.ntmps76
 go_wp2
 clear hwi
 go_loopw [1] (fun vi wr => vi = .int .i64 x ∧ Below W.heap.size W wr) (fun _ _ => 0)
 case atStart => exact ⟨by first | rfl | (congr 1; omega), (Below.refl _ W).alloc (Nat.le_refl _) _⟩
 case round =>
  obtain ⟨rfl, hb⟩ := hrel
  go_wp2
  go_ret
  exact ⟨rfl, hb⟩
theorem back_ok (cls : List Int) (A1 : Option Addr) (n1 c1 g o n c : Nat) (L i : Int) (W : World) (h : ClsAt W g o n cls) (hi : i ≤ n) (hi2 : -100 < i) :
 Calls Tryz.prog 76 #[.agg #[.slice A1 n1 c1, .slice (some ⟨g, o, none⟩) n c, .int .i64 L], .int .i64 i] W (IPost (wbackF cls i) W) := by
 unfold wbackF
 split
 ·rename_i h0
  obtain ⟨k, rfl⟩ := Int.eq_ofNat_of_zero_le h0
  exact back_at cls A1 n1 c1 g o n c L k W h (by omega)
 ·exact back_neg A1 n1 c1 g o n c L i W (by omega) hi2
set_option maxRecDepth 100000 in
theorem of_ok (cls : List Int) (A1 : Option Addr) (n1 c1 g o n c : Nat) (L i : Int) (W : World) (h : ClsAt W g o n cls) :
 Calls Tryz.prog 78 #[.agg #[.slice A1 n1 c1, .slice (some ⟨g, o, none⟩) n c, .int .i64 L], .int .i64 i] W (IPost (wofF cls i) W) := by
 have hgl := h.blk; have hsm := h.small
 unfold wofF
 rw [h.len]
 by_cases h0 : i < 0
 ·rw [if_pos (.inl h0)]
  clear h
  go_enter Tryz.func78, Tryz.ntmps78
  go_wp2
  go_ret
  exact ⟨rfl, (Below.refl _ W).alloc (Nat.le_refl _) _⟩
 ·obtain ⟨k, rfl⟩ := Int.eq_ofNat_of_zero_le (Int.not_lt.1 h0)
  by_cases h1 : (n : Int) ≤ (k : Int)
  ·rw [if_pos (.inr h1)]
   clear h h0
   have h2 : ¬ k < n := by omega
   go_enter Tryz.func78, Tryz.ntmps78
   go_wp2
   go_ret
   exact ⟨rfl, (Below.refl _ W).alloc (Nat.le_refl _) _⟩
  ·rw [if_neg (by omega), Int.toNat_natCast]
   have hcell := h.cell k (by omega)
   have h2 : k < n := by omega
   have h3 : ¬ n ≤ k := by omega
   obtain ⟨x, hx⟩ : ∃ x, cls.getD k 0 = x := ⟨_, rfl⟩
   rw [hx] at hcell ⊢
   clear h h0 hx
   go_enter Tryz.func78, Tryz.ntmps78
   go_wp2
   go_ret
   exact ⟨rfl, (Below.refl _ W).alloc (Nat.le_refl _) _⟩
set_option maxRecDepth 100000 in
theorem on_ok (cls : List Int) (A1 : Option Addr) (n1 c1 g o n c : Nat) (L : Int) (i : Nat) (W : World) (h : ClsAt W g o n cls) (hi : i < n) :
 Calls Tryz.prog 79 #[.agg #[.slice A1 n1 c1, .slice (some ⟨g, o, none⟩) n c, .int .i64 L], .int .i64 i] W (IPost (wonF cls i) W) := by
 have hgl := h.blk; have hsm := h.small
 have HC := Lib.hid h; clear h
 obtain ⟨i1, hi1⟩ : ∃ i1 : Nat, i + 1 = i1 := ⟨_, rfl⟩
 have hwi : wrap64 ((i : Int) + 1) = (i1 : Int) := by unfold wrap64; omega
 obtain ⟨r, hr⟩ : ∃ r, wonF cls i = r := ⟨_, rfl⟩
 rw [hr]
 have HR := Lib.hid (show wofF cls (skipN cls (n - i) i1) = r by rw [← hr, ← hi1, ← HC.out.len]; rfl)
 clear hr
 go_enter Tryz.func79, Tryz.ntmps79
 go_wp2
 clear hwi
 go_loopw [1] (fun vi wr => ∃ k f : Nat, k ≤ n ∧ n < k + f + 1 ∧ vi = .int .i64 (k : Int) ∧ wofF cls (skipN cls f k) = r ∧ wr = W.alloc (.cells #[.slice A1 n1 c1, .slice (some ⟨g, o, none⟩) n c, .int .i64 L] 105)) (fun vi _ => n - (RowKit.intOf vi).toNat)
 case atStart => exact ⟨i1, n - i, by omega, by omega, by first | rfl | (congr 1; omega), HR.out, rfl⟩
 case round =>
  obtain ⟨k, f, hk, hf, rfl, hbk, rfl⟩ := hrel
  have HB := Lib.hid hbk; clear hbk
  by_cases hlt : k < n
  ·have hcell := HC.out.cell k hlt
   obtain ⟨f, rfl⟩ : ∃ f', f = f' + 1 := ⟨f - 1, by omega⟩
   obtain ⟨x, hx⟩ : ∃ x, cls.getD k 0 = x := ⟨_, rfl⟩
   rw [hx] at hcell
   have HX := Lib.hid hx; clear hx
   obtain ⟨k1, hk1⟩ : ∃ k1 : Nat, k + 1 = k1 := ⟨_, rfl⟩
   have hwj : wrap64 ((k : Int) + 1) = (k1 : Int) := by unfold wrap64; omega
   cases hh : hangsF x with
   | true =>
     go_wp2_with (go_at_call 75; refine (hangs_ok _ _).mono ?_; rintro e w1 ⟨rfl, rfl⟩; rw [hh])
     refine ⟨⟨k1, f, by omega, by omega, by first | rfl | (congr 1; omega), ?_, by first | rfl | trivial⟩, by simp [RowKit.intOf] <;> omega⟩
     rw [← HB.out]
     show _ = wofF cls ((if k < cls.length ∧ hangsF (cls.getD k 0) = true then skipN cls f (k + 1) else k : Nat) : Int)
     rw [HX.out, HC.out.len, if_pos ⟨hlt, hh⟩, hk1]
   | false =>
     have HQ := Lib.hid (show wofF cls k = r by
      rw [← HB.out]
      show _ = wofF cls ((if k < cls.length ∧ hangsF (cls.getD k 0) = true then skipN cls f (k + 1) else k : Nat) : Int)
      rw [HX.out, if_neg (fun h => by rw [hh] at h; exact Bool.false_ne_true h.2)])
     go_wp2_with (first
      | (go_at_call 75; refine (hangs_ok _ _).mono ?_; rintro e w1 ⟨rfl, rfl⟩; rw [hh])
      | (go_at_call 78; refine (of_ok cls _ _ _ _ _ _ _ _ _ _ (HC.out.alloc _)).mono ?_; rintro e w1 ⟨rfl, hb⟩; have HB1 := Lib.hid hb; clear hb; rw [HQ.out]))
     go_ret
     exact ⟨rfl, ((Below.refl _ W).alloc (Nat.le_refl _) _).trans (HB1.out.mono (by simp))⟩
  ·obtain rfl : k = n := by omega
   have HQ := Lib.hid (show wofF cls k = r by
    rw [← HB.out]
    cases f with
    | zero => rfl
    | succ f =>
      show _ = wofF cls ((if k < cls.length ∧ hangsF (cls.getD k 0) = true then skipN cls f (k + 1) else k : Nat) : Int)
      rw [if_neg (fun h => by have := HC.out.len; omega)])
   go_wp2_with (go_at_call 78; refine (of_ok cls _ _ _ _ _ _ _ _ _ _ (HC.out.alloc _)).mono ?_; rintro e w1 ⟨rfl, hb⟩; have HB1 := Lib.hid hb; clear hb; rw [HQ.out])
   go_ret
   exact ⟨rfl, ((Below.refl _ W).alloc (Nat.le_refl _) _).trans (HB1.out.mono (by simp))⟩
/-- a later world: the box of the text stands -/
structure CW (W : World) (A1 : Option Addr) (n1 c1 g o n c : Nat) (L : Int) (w : World) : Prop where
 bel : Below W.heap.size W w
 b0 : w.cell? ⟨W.heap.size, 0, none⟩ = some (.slice A1 n1 c1)
 b1 : w.cell? ⟨W.heap.size, 1, none⟩ = some (.slice (some ⟨g, o, none⟩) n c)
 b2 : w.cell? ⟨W.heap.size, 2, none⟩ = some (.int .i64 L)
theorem CW.size {W : World} {A1 : Option Addr} {n1 c1 g o n c : Nat} {L : Int} {w : World} (h : CW W A1 n1 c1 g o n c L w) : W.heap.size < w.heap.size := cell_lt h.b0
theorem CW.go {W : World} {A1 : Option Addr} {n1 c1 g o n c : Nat} {L : Int} {w w' : World} (h : CW W A1 n1 c1 g o n c L w) (hb : Below w.heap.size w w') : CW W A1 n1 c1 g o n c L w' :=
 ⟨h.bel.trans (hb.mono h.bel.size), by rw [hb.cell h.size]; exact h.b0, by rw [hb.cell h.size]; exact h.b1, by rw [hb.cell h.size]; exact h.b2⟩
theorem CW.drewN {W : World} {A1 : Option Addr} {n1 c1 g o n c : Nat} {L : Int} {w : World} (h : CW W A1 n1 c1 g o n c L w) (q : Nat) : CW W A1 n1 c1 g o n c L (w.drewN q) :=
 ⟨⟨h.bel.os, h.bel.tape, h.bel.output, h.bel.size, h.bel.block⟩, h.b0, h.b1, h.b2⟩
theorem CW.new (W : World) (A1 : Option Addr) (n1 c1 g o n c : Nat) (L : Int) (ty : TypeId) : CW W A1 n1 c1 g o n c L (W.alloc (.cells #[.slice A1 n1 c1, .slice (some ⟨g, o, none⟩) n c, .int .i64 L] ty)) := by
 refine ⟨(Below.refl _ W).alloc (Nat.le_refl _) _, ?_, ?_, ?_⟩
 all_goals rw [cell_of_row _ _ _ _ _ _ (heap_alloc_new W _)]; rfl
def SomeInt (W : World) (e : Ending) (w' : World) : Prop := ∃ x : Int, e = .returned (.int .i64 x) ∧ Below W.heap.size W w'
set_option maxRecDepth 100000 in
theorem regions_ok (cls : List Int) (A1 : Option Addr) (n1 c1 g o n c : Nat) (L : Int) (i : Nat) (W : World) (h : ClsAt W g o n cls) (hi : i < n) :
 Calls Tryz.prog 80 #[.agg #[.slice A1 n1 c1, .slice (some ⟨g, o, none⟩) n c, .int .i64 L], .int .i64 i] W (SomeInt W) := by
 have hgl := h.blk; have hsm := h.small
 have HCL := Lib.hid (fun (w : World) (hb : Below W.heap.size W w) => h.below hgl hb); clear h
 have HBF := Lib.hid (fun k : Nat => show wbackF cls k = wbackN cls k by unfold wbackF; rw [if_pos (Int.natCast_nonneg k)]; rfl)
 obtain ⟨x0, hx0⟩ : ∃ x0, wbackF cls i = x0 := ⟨_, rfl⟩
 have hx1 : -1 ≤ x0 ∧ x0 < i := by rw [← hx0, HBF.out i]; exact wbackN_lt cls i
 obtain ⟨hx1, hx2⟩ := hx1
 have HX0 := Lib.hid hx0; clear hx0
 have HC0 := Lib.hid (CW.new W A1 n1 c1 g o n c L 105)
 go_enter Tryz.func80, Tryz.ntmps80
 go_wp2_with (go_at_call 76; refine (back_ok cls _ _ _ _ _ _ _ _ _ _ (HCL.out _ HC0.out.bel) (by omega) (by omega)).mono ?_; rintro e w1 ⟨rfl, hb⟩; have HC1 := Lib.hid (HC0.out.go hb); clear hb; rw [HX0.out])
 go_loopw [1, 5] (fun vi vn wr => ∃ x m : Int, vi = .int .i64 x ∧ vn = .int .i64 m ∧ -1 ≤ x ∧ x < n ∧ CW W A1 n1 c1 g o n c L wr) (fun vi _ _ => (RowKit.intOf vi + 1).toNat)
 case atStart => exact ⟨x0, 0, rfl, rfl, hx1, by omega, HC1.out⟩
 case round =>
  obtain ⟨x, m, rfl, rfl, hm1, hm2, hcw⟩ := hrel
  have HW := Lib.hid hcw
  obtain ⟨_, b0, b1, b2⟩ := hcw
  obtain ⟨y, hy⟩ : ∃ y, wofF cls x = y := ⟨_, rfl⟩
  have HY := Lib.hid hy
  by_cases h7 : y = 7
  ·subst h7
   have hx : 0 ≤ x := by
    rcases Int.lt_or_le x 0 with c | c
    ·unfold wofF at hy
     rw [if_pos (.inl c)] at hy
     cases hy
    ·exact c
   clear hy
   obtain ⟨k, rfl⟩ := Int.eq_ofNat_of_zero_le hx
   obtain ⟨x', hx'⟩ : ∃ x', wbackF cls k = x' := ⟨_, rfl⟩
   have hx2 : -1 ≤ x' ∧ x' < k := by rw [← hx', HBF.out k]; exact wbackN_lt cls k
   obtain ⟨hy1, hy2⟩ := hx2
   have HX' := Lib.hid hx'; clear hx' hx
   go_wp2_with (first
    | (go_at_call 78; refine (of_ok cls _ _ _ _ _ _ _ _ _ _ (HCL.out _ HW.out.bel)).mono ?_; rintro e w2 ⟨rfl, hb⟩; have HW2 := Lib.hid (HW.out.go hb); clear hb; rw [HY.out]; obtain ⟨_, d0, d1, d2⟩ := HW2.out)
    | (go_at_call 76; refine (back_ok cls _ _ _ _ _ _ _ _ _ _ (HCL.out _ HW2.out.bel) (by omega) (by omega)).mono ?_; rintro e w3 ⟨rfl, hb⟩; have HW3 := Lib.hid (HW2.out.go hb); clear hb; rw [HX'.out]))
   go_roundw
   case rel => exact ⟨x', _, rfl, rfl, hy1, by omega, HW3.out⟩
   case measure => simp [RowKit.intOf] <;> omega
  ·have h7b : (y == 7) = false := by simp [h7]
   clear hy
   go_wp2_with (go_at_call 78; refine (of_ok cls _ _ _ _ _ _ _ _ _ _ (HCL.out _ HW.out.bel)).mono ?_; rintro e w2 ⟨rfl, hb⟩; have HW2 := Lib.hid (HW.out.go hb); clear hb; rw [HY.out])
   go_ret
   exact ⟨_, rfl, HW2.out.bel⟩
end
section
open Go.Shelf Go.RowKit Go.Lib Go.Proofs.YtmpkgddioiaonaaGreatDoor.Am
/-- how many regions stand right ahead -/
def regN (cls : List Int) : Nat → Int → Nat
 | 0, _ => 0
 | f + 1, x => if wofF cls x = 7 then regN cls f (wbackF cls x) + 1 else 0
def regF (cls : List Int) (i : Nat) : Nat := regN cls (i + 1) (wbackF cls i)
theorem regN_le (cls : List Int) : ∀ f x, regN cls f x ≤ f
 | 0, _ => Nat.le_refl _
 | f + 1, x => by
   unfold regN
   have := regN_le cls f (wbackF cls x)
   split <;> omega
set_option maxRecDepth 100000 in
theorem regionsX_ok (cls : List Int) (A1 : Option Addr) (n1 c1 g o n c : Nat) (L : Int) (i : Nat) (W : World) (h : ClsAt W g o n cls) (hi : i < n) :
 Calls Tryz.prog 80 #[.agg #[.slice A1 n1 c1, .slice (some ⟨g, o, none⟩) n c, .int .i64 L], .int .i64 i] W (IPost (regF cls i) W) := by
 have hgl := h.blk; have hsm := h.small
 have HCL := Lib.hid (fun (w : World) (hb : Below W.heap.size W w) => h.below hgl hb); clear h
 obtain ⟨R, hR⟩ : ∃ R, regF cls i = R := ⟨_, rfl⟩
 have hRL : R ≤ i + 1 := by rw [← hR]; exact regN_le _ _ _
 rw [hR]
 have HR := Lib.hid (show regN cls (i + 1) (wbackF cls i) = R from hR); clear hR
 have HBF := Lib.hid (fun k : Nat => show wbackF cls k = wbackN cls k by unfold wbackF; rw [if_pos (Int.natCast_nonneg k)]; rfl)
 obtain ⟨x0, hx0⟩ : ∃ x0, wbackF cls i = x0 := ⟨_, rfl⟩
 have hx1 : -1 ≤ x0 ∧ x0 < i := by rw [← hx0, HBF.out i]; exact wbackN_lt cls i
 obtain ⟨hx1, hx2⟩ := hx1
 rw [hx0] at HR
 have HX0 := Lib.hid hx0; clear hx0
 have HC0 := Lib.hid (CW.new W A1 n1 c1 g o n c L 105)
 go_enter Tryz.func80, Tryz.ntmps80
 go_wp2_with (go_at_call 76; refine (back_ok cls _ _ _ _ _ _ _ _ _ _ (HCL.out _ HC0.out.bel) (by omega) (by omega)).mono ?_; rintro e w1 ⟨rfl, hb⟩; have HC1 := Lib.hid (HC0.out.go hb); clear hb; rw [HX0.out])
 go_loopw [1, 5] (fun vi vn wr => ∃ (x : Int) (m f : Nat), vi = .int .i64 x ∧ vn = .int .i64 m ∧ -1 ≤ x ∧ x < n ∧ x < f ∧ m + regN cls f x = R ∧ CW W A1 n1 c1 g o n c L wr) (fun vi _ _ => (RowKit.intOf vi + 1).toNat)
 case atStart => exact ⟨x0, 0, i + 1, rfl, rfl, hx1, by omega, by omega, by rw [HR.out, Nat.zero_add], HC1.out⟩
 case round =>
  obtain ⟨x, m, f, rfl, rfl, hm1, hm2, hxf, hreg, hcw⟩ := hrel
  have HW := Lib.hid hcw
  obtain ⟨_, b0, b1, b2⟩ := hcw
  obtain ⟨y, hy⟩ : ∃ y, wofF cls x = y := ⟨_, rfl⟩
  have HY := Lib.hid hy
  by_cases h7 : y = 7
  ·subst h7
   have hx : 0 ≤ x := by
    rcases Int.lt_or_le x 0 with c | c
    ·unfold wofF at hy
     rw [if_pos (.inl c)] at hy
     cases hy
    ·exact c
   obtain ⟨f', rfl⟩ : ∃ f', f = f' + 1 := ⟨f - 1, by omega⟩
   unfold regN at hreg
   rw [if_pos hy] at hreg
   clear hy
   obtain ⟨k, rfl⟩ := Int.eq_ofNat_of_zero_le hx
   obtain ⟨x', hx'⟩ : ∃ x', wbackF cls k = x' := ⟨_, rfl⟩
   have hx2 : -1 ≤ x' ∧ x' < k := by rw [← hx', HBF.out k]; exact wbackN_lt cls k
   obtain ⟨hy1, hy2⟩ := hx2
   rw [hx'] at hreg
   have hml : m + 1 ≤ 100001 := by omega
   have HREG := Lib.hid (show m + 1 + regN cls f' x' = R by omega)
   have HX' := Lib.hid hx'; clear hx' hx hreg
   go_wp2_with (first
    | (go_at_call 78; refine (of_ok cls _ _ _ _ _ _ _ _ _ _ (HCL.out _ HW.out.bel)).mono ?_; rintro e w2 ⟨rfl, hb⟩; have HW2 := Lib.hid (HW.out.go hb); clear hb; rw [HY.out]; obtain ⟨_, d0, d1, d2⟩ := HW2.out)
    | (go_at_call 76; refine (back_ok cls _ _ _ _ _ _ _ _ _ _ (HCL.out _ HW2.out.bel) (by omega) (by omega)).mono ?_; rintro e w3 ⟨rfl, hb⟩; have HW3 := Lib.hid (HW2.out.go hb); clear hb; rw [HX'.out]))
   go_roundw
   case rel => exact ⟨x', m + 1, f', rfl, by go_num, hy1, by omega, by omega, HREG.out, HW3.out⟩
   case measure => simp [RowKit.intOf] <;> omega
  ·have h7b : (y == 7) = false := by simp [h7]
   have hmR : m = R := by
    cases f with
    | zero => exact hreg
    | succ f => unfold regN at hreg; rw [if_neg (by rw [hy]; exact h7)] at hreg; exact hreg
   have HMR := Lib.hid hmR; clear hmR hreg
   clear hy
   go_wp2_with (go_at_call 78; refine (of_ok cls _ _ _ _ _ _ _ _ _ _ (HCL.out _ HW.out.bel)).mono ?_; rintro e w2 ⟨rfl, hb⟩; have HW2 := Lib.hid (HW.out.go hb); clear hb; rw [HY.out])
   go_ret
   exact ⟨by rw [HMR.out]; rfl, HW2.out.bel⟩
end
section
open Go.Shelf Go.RowKit Go.Lib Go.Proofs.YtmpkgddioiaonaaGreatDoor.Am
/-- may one cut ahead of the rune number i, that is not the first? -/
def cutX (x y : Int) (l : Bool) (r : Nat) : Bool :=
 if (x == 1 && y == 2) = true then false else if (endsF x || endsF y) = true then true else if (x == 5 && y == 19) = true then false else if (x == 18 && y == 18) = true then false else if hangsF y = true then false else if l = true then false else !(y == 7) || r % 2 == 0
def cutF (cls : List Int) (i : Nat) : Bool := cutX (cls.getD (i - 1) 0) (cls.getD i 0) (lettersF (wofF cls (wbackF cls (wbackN cls i))) (wofF cls (wbackN cls i)) (cls.getD i 0) (wonF cls i)) (regF cls i)
def CutPost (b : Bool) (W : World) (e : Ending) (w' : World) : Prop := e = .returned (.bool b) ∧ Below W.heap.size W w'
set_option maxRecDepth 100000 in
set_option maxHeartbeats 8000000 in
theorem cutX_ok (cls : List Int) (A1 : Option Addr) (n1 c1 g o n c : Nat) (L : Int) (i : Nat) (W : World) (h : ClsAt W g o n cls) (h1 : 1 ≤ i) (hi : i < n) :
 Calls Tryz.prog 50 #[.agg #[.slice A1 n1 c1, .slice (some ⟨g, o, none⟩) n c, .int .i64 L], .int .i64 i] W (CutPost (cutF cls i) W) := by
 have hgl := h.blk; have hsm := h.small
 have HC := Lib.hid h
 have hc0 := h.cell (i - 1) (by omega)
 have hc1 := h.cell i hi
 obtain ⟨x, hx⟩ : ∃ x, cls.getD (i - 1) 0 = x := ⟨_, rfl⟩
 obtain ⟨y, hy⟩ : ∃ y, cls.getD i 0 = y := ⟨_, rfl⟩
 rw [hx] at hc0
 rw [hy] at hc1
 obtain ⟨z, hz⟩ : ∃ z, cutF cls i = z := ⟨_, rfl⟩
 rw [hz]
 unfold cutF cutX at hz
 rw [hx, hy] at hz
 obtain ⟨R, hR⟩ : ∃ R, regF cls i = R := ⟨_, rfl⟩
 rw [hR] at hz
 have HR := Lib.hid hR
 have HZ := Lib.hid hz
 clear hx hy h hz hR
 go_enter Tryz.func50, Tryz.ntmps50
 go_upto_region 1 with fail
 go_cut [5, 6] (fun p q wx => p = .int .i64 x ∧ q = .int .i64 y ∧ CW W A1 n1 c1 g o n c L wx)
 case first =>
  go_quiet (fail)
  go_wp2_with fail
  go_meet
  exact ⟨rfl, rfl, (CW.new W A1 n1 c1 g o n c L _).drewN _⟩
 case rest =>
  obtain ⟨rfl, rfl, hcw⟩ := hcut
  have HW := Lib.hid hcw; clear hcw hc0 hc1
  obtain ⟨bb, hbb⟩ : ∃ bb, wbackN cls i = bb := ⟨_, rfl⟩
  have hbl := wbackN_lt cls i
  rw [hbb] at hbl
  obtain ⟨hbl1, hbl2⟩ := hbl
  rw [hbb] at HZ
  have HBB := Lib.hid hbb; clear hbb
  go_upto_region 2 with fail
  go_cut [19] (fun b wx => b = .bool (x == 1 && y == 2) ∧ wc = wx)
  case first =>
   by_cases e1 : x = 1
   ·subst e1; go_wp2_with fail; go_meet; exact ⟨by first | rfl | simp, rfl⟩
   ·have b1 : (x == 1) = false := by simp [e1]
    go_wp2_with fail; go_meet; exact ⟨by rw [b1]; rfl, rfl⟩
  case rest =>
   obtain ⟨rfl, rfl⟩ := hcut
   obtain ⟨t1, ht1⟩ : ∃ q, (x == 1 && y == 2) = q := ⟨_, rfl⟩
   rw [ht1] at HZ ⊢
   clear ht1
   cases t1
   case true => (go_wp2_with fail; go_ret; exact ⟨by rw [← HZ.out]; rfl, HW.out.bel⟩)
   case false =>
    go_upto_region 4 with fail
    go_cut [26] (fun b wx => b = .bool (endsF x || endsF y) ∧ wc = wx)
    case first =>
     cases h0 : endsF x
     case false => (go_wp2_with (go_at_call 74; refine (ends_ok _ _).mono ?_; rintro e w1 ⟨rfl, rfl⟩; try rw [h0]); go_meet; exact ⟨by rw [h0]; rfl, rfl⟩)
     case true => (go_wp2_with (go_at_call 74; refine (ends_ok _ _).mono ?_; rintro e w1 ⟨rfl, rfl⟩; try rw [h0]); go_meet; exact ⟨by rw [h0]; rfl, rfl⟩)
    case rest =>
     obtain ⟨rfl, rfl⟩ := hcut
     obtain ⟨t2, ht2⟩ : ∃ q, (endsF x || endsF y) = q := ⟨_, rfl⟩
     rw [ht2] at HZ ⊢
     clear ht2
     cases t2
     case true => (go_wp2_with fail; go_ret; exact ⟨by rw [← HZ.out]; rfl, HW.out.bel⟩)
     case false =>
      go_upto_region 6 with fail
      go_cut [33] (fun b wx => b = .bool (x == 5 && y == 19) ∧ wc = wx)
      case first =>
       by_cases e1 : x = 5
       ·subst e1; go_wp2_with fail; go_meet; exact ⟨by first | rfl | simp, rfl⟩
       ·have b1 : (x == 5) = false := by simp [e1]
        go_wp2_with fail; go_meet; exact ⟨by rw [b1]; rfl, rfl⟩
      case rest =>
       obtain ⟨rfl, rfl⟩ := hcut
       obtain ⟨t3, ht3⟩ : ∃ q, (x == 5 && y == 19) = q := ⟨_, rfl⟩
       rw [ht3] at HZ ⊢
       clear ht3
       cases t3
       case true => (go_wp2_with fail; go_ret; exact ⟨by rw [← HZ.out]; rfl, HW.out.bel⟩)
       case false =>
        go_upto_region 7 with fail
        go_cut [33] (fun b wx => b = .bool (x == 18 && y == 18) ∧ wc = wx)
        case first =>
         by_cases e1 : x = 18
         ·subst e1; go_wp2_with fail; go_meet; exact ⟨by first | rfl | simp, rfl⟩
         ·have b1 : (x == 18) = false := by simp [e1]
          go_wp2_with fail; go_meet; exact ⟨by rw [b1]; rfl, rfl⟩
        case rest =>
         obtain ⟨rfl, rfl⟩ := hcut
         obtain ⟨t4, ht4⟩ : ∃ q, (x == 18 && y == 18) = q := ⟨_, rfl⟩
         rw [ht4] at HZ ⊢
         clear ht4
         cases t4
         case true => (go_wp2_with fail; go_ret; exact ⟨by rw [← HZ.out]; rfl, HW.out.bel⟩)
         case false =>
          cases h0 : hangsF y
          case true => (go_wp2_with (go_at_call 75; refine (hangs_ok _ _).mono ?_; rintro e w1 ⟨rfl, rfl⟩; rw [h0]); go_ret; exact ⟨by rw [← HZ.out, h0]; rfl, HW.out.bel⟩)
          case false =>
           obtain ⟨_, b0, b1, b2⟩ := HW.out
           go_wp2_with (first | (go_at_call 75; refine (hangs_ok _ _).mono ?_; rintro e w1 ⟨rfl, rfl⟩; rw [h0]) | (go_at_call 76; refine (back_at cls _ _ _ _ _ _ _ _ i _ (HC.out.below hgl HW.out.bel) (Nat.le_of_lt hi)).mono ?_; rintro e w1 ⟨rfl, hb⟩; have HW1 := Lib.hid (HW.out.go hb); clear hb; rw [HBB.out]))
           go_cut [63] (fun b wx => b = .bool (lettersF (wofF cls (wbackF cls bb)) (wofF cls bb) y (wonF cls i)) ∧ CW W A1 n1 c1 g o n c L wx)
           case first =>
            refine wp_region_quiet_litC (C := CW W A1 n1 c1 g o n c L) (by kernel_rfl) (by kernel_rfl) (HW1.out.drewN 1) ?_
            refine BigFrame.wpQuiet_want (by kernel_rfl) (fun K hK => ?_)
            refine quiet_run (.agg #[.slice A1 n1 c1, .slice (some ⟨g, o, none⟩) n c, .int .i64 L]) (fun w hw => ?_) (hK _ ?_)
            ·obtain ⟨_, d0, d1, d2⟩ := hw; go_simp
            clear hK K
            (try simp only [Act.put]); (try simp only [List.setIfInBounds_toArray]); (try simp only [List.set_cons_succ]); (try simp only [List.set_cons_zero])
            refine BigFrame.wpQuiet_want (by kernel_rfl) (fun K hK => ?_)
            refine quiet_run (.agg #[.slice A1 n1 c1, .slice (some ⟨g, o, none⟩) n c, .int .i64 L]) (fun w hw => ?_) (hK _ ?_)
            ·obtain ⟨_, d0, d1, d2⟩ := hw; go_simp
            clear hK K
            (try simp only [Act.put]); (try simp only [List.setIfInBounds_toArray]); (try simp only [List.set_cons_succ]); (try simp only [List.set_cons_zero])
            refine BigFrame.wpQuiet_want (by kernel_rfl) (fun K hK => ?_)
            refine BigFrame.quiet_move _ rfl (hK _ ?_)
            clear hK K
            (try simp only [Act.put]); (try simp only [List.setIfInBounds_toArray]); (try simp only [List.set_cons_succ]); (try simp only [List.set_cons_zero])
            refine BigFrame.wpQuiet_want (by kernel_rfl) (fun K hK => ?_)
            refine quiet_call 76 #[.agg #[.slice A1 n1 c1, .slice (some ⟨g, o, none⟩) n c, .int .i64 L], .int .i64 bb] (.int .i64 (wbackF cls bb)) (fun w hw => ?_) (fun w hw => ?_) (hK _ ?_)
            ·go_simp
            ·refine (back_ok cls _ _ _ _ _ _ _ _ _ _ (HC.out.below hgl hw.bel) (by omega) (by omega)).mono ?_
             rintro e w2 ⟨rfl, hb⟩
             exact ⟨rfl, hw.go hb⟩
            clear hK K
            (try simp only [Act.put]); (try simp only [List.setIfInBounds_toArray]); (try simp only [List.set_cons_succ]); (try simp only [List.set_cons_zero])
            refine BigFrame.wpQuiet_want (by kernel_rfl) (fun K hK => ?_)
            refine quiet_call 78 #[.agg #[.slice A1 n1 c1, .slice (some ⟨g, o, none⟩) n c, .int .i64 L], .int .i64 (wbackF cls bb)] (.int .i64 (wofF cls (wbackF cls bb))) (fun w hw => ?_) (fun w hw => ?_) (hK _ ?_)
            ·go_simp
            ·refine (of_ok cls _ _ _ _ _ _ _ _ _ _ (HC.out.below hgl hw.bel)).mono ?_
             rintro e w2 ⟨rfl, hb⟩
             exact ⟨rfl, hw.go hb⟩
            clear hK K
            (try simp only [Act.put]); (try simp only [List.setIfInBounds_toArray]); (try simp only [List.set_cons_succ]); (try simp only [List.set_cons_zero])
            refine BigFrame.wpQuiet_want (by kernel_rfl) (fun K hK => ?_)
            refine quiet_run (.agg #[.slice A1 n1 c1, .slice (some ⟨g, o, none⟩) n c, .int .i64 L]) (fun w hw => ?_) (hK _ ?_)
            ·obtain ⟨_, d0, d1, d2⟩ := hw; go_simp
            clear hK K
            (try simp only [Act.put]); (try simp only [List.setIfInBounds_toArray]); (try simp only [List.set_cons_succ]); (try simp only [List.set_cons_zero])
            refine BigFrame.wpQuiet_want (by kernel_rfl) (fun K hK => ?_)
            refine BigFrame.quiet_move _ rfl (hK _ ?_)
            clear hK K
            (try simp only [Act.put]); (try simp only [List.setIfInBounds_toArray]); (try simp only [List.set_cons_succ]); (try simp only [List.set_cons_zero])
            refine BigFrame.wpQuiet_want (by kernel_rfl) (fun K hK => ?_)
            refine quiet_call 78 #[.agg #[.slice A1 n1 c1, .slice (some ⟨g, o, none⟩) n c, .int .i64 L], .int .i64 bb] (.int .i64 (wofF cls bb)) (fun w hw => ?_) (fun w hw => ?_) (hK _ ?_)
            ·go_simp
            ·refine (of_ok cls _ _ _ _ _ _ _ _ _ _ (HC.out.below hgl hw.bel)).mono ?_
             rintro e w2 ⟨rfl, hb⟩
             exact ⟨rfl, hw.go hb⟩
            clear hK K
            (try simp only [Act.put]); (try simp only [List.setIfInBounds_toArray]); (try simp only [List.set_cons_succ]); (try simp only [List.set_cons_zero])
            refine BigFrame.wpQuiet_want (by kernel_rfl) (fun K hK => ?_)
            refine BigFrame.quiet_move _ rfl (hK _ ?_)
            clear hK K
            (try simp only [Act.put]); (try simp only [List.setIfInBounds_toArray]); (try simp only [List.set_cons_succ]); (try simp only [List.set_cons_zero])
            refine BigFrame.wpQuiet_want (by kernel_rfl) (fun K hK => ?_)
            refine quiet_run (.agg #[.slice A1 n1 c1, .slice (some ⟨g, o, none⟩) n c, .int .i64 L]) (fun w hw => ?_) (hK _ ?_)
            ·obtain ⟨_, d0, d1, d2⟩ := hw; go_simp
            clear hK K
            (try simp only [Act.put]); (try simp only [List.setIfInBounds_toArray]); (try simp only [List.set_cons_succ]); (try simp only [List.set_cons_zero])
            refine BigFrame.wpQuiet_want (by kernel_rfl) (fun K hK => ?_)
            refine BigFrame.quiet_move _ rfl (hK _ ?_)
            clear hK K
            (try simp only [Act.put]); (try simp only [List.setIfInBounds_toArray]); (try simp only [List.set_cons_succ]); (try simp only [List.set_cons_zero])
            refine BigFrame.wpQuiet_want (by kernel_rfl) (fun K hK => ?_)
            refine quiet_call 79 #[.agg #[.slice A1 n1 c1, .slice (some ⟨g, o, none⟩) n c, .int .i64 L], .int .i64 i] (.int .i64 (wonF cls i)) (fun w hw => ?_) (fun w hw => ?_) (hK _ ?_)
            ·go_simp
            ·refine (on_ok cls _ _ _ _ _ _ _ _ i _ (HC.out.below hgl hw.bel) hi).mono ?_
             rintro e w2 ⟨rfl, hb⟩
             exact ⟨rfl, hw.go hb⟩
            clear hK K
            (try simp only [Act.put]); (try simp only [List.setIfInBounds_toArray]); (try simp only [List.set_cons_succ]); (try simp only [List.set_cons_zero])
            refine BigFrame.wpQuiet_want (by kernel_rfl) (fun K hK => ?_)
            refine quiet_call 77 #[.int .i64 (wofF cls (wbackF cls bb)), .int .i64 (wofF cls bb), .int .i64 y, .int .i64 (wonF cls i)] (.bool (lettersF (wofF cls (wbackF cls bb)) (wofF cls bb) y (wonF cls i))) (fun w hw => ?_) (fun w hw => ?_) (hK _ ?_)
            ·go_simp
            ·refine (letters_ok _ _ _ _ _).mono ?_
             rintro e w2 ⟨rfl, rfl⟩
             exact ⟨rfl, hw⟩
            clear hK K
            (try simp only [Act.put]); (try simp only [List.setIfInBounds_toArray]); (try simp only [List.set_cons_succ]); (try simp only [List.set_cons_zero])
            refine wpQuiet_nil ?_
            intro w' hw'
            go_wp2_with fail
            go_meet
            exact ⟨rfl, hw'⟩
           case rest =>
            obtain ⟨rfl, hcw⟩ := hcut
            rw [h0] at HZ
            obtain ⟨t5, ht5⟩ : ∃ q, lettersF (wofF cls (wbackF cls bb)) (wofF cls bb) y (wonF cls i) = q := ⟨_, rfl⟩
            rw [ht5] at HZ ⊢
            clear ht5
            have HW2 := Lib.hid hcw; clear b0 b1 b2 HW HW1
            obtain ⟨_, d0, d1, d2⟩ := hcw
            cases t5
            case true => (go_wp2_with fail; go_ret; exact ⟨by rw [← HZ.out]; rfl, HW2.out.bel⟩)
            case false =>
             by_cases e7 : y = 7
             ·subst e7
              go_wp2_with (go_at_call 80; refine (regionsX_ok cls _ _ _ _ _ _ _ _ i _ (HC.out.below hgl HW2.out.bel) hi).mono ?_; rintro e w3 ⟨rfl, hb⟩; rw [HR.out]; have HW3 := Lib.hid (HW2.out.go hb); clear hb)
              go_ret
              exact ⟨by rw [← HZ.out]; show Ending.returned (.bool ((R : Int) % 2 == 0)) = Ending.returned (.bool (R % 2 == 0)); congr 2; rw [Bool.eq_iff_iff, beq_iff_eq, beq_iff_eq]; omega, HW3.out.bel⟩
             ·have b7 : (y == 7) = false := by simp [e7]
              go_wp2_with fail
              go_ret
              exact ⟨by rw [← HZ.out]; rw [b7]; rfl, HW2.out.bel⟩
end
end Go.Proofs.YtmpkgddioiaonaaGreatDoor.searchLeft
