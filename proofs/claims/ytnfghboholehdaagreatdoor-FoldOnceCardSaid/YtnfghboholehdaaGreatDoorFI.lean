/- FoldOnce, walked: word's tests of classes; letters. -/
import Derived.Test.YtnfghboholehdaaGreatDoorFB
import Derived.Deep.DeepCutAuto
namespace Go.Proofs.YtnfghboholehdaaGreatDoor.foldOnce
section
open Go.Shelf Go.RowKit Go.Lib Go.Proofs.YtnfghboholehdaaGreatDoor.Am
def endsF (c : Int) : Bool := c == 3 || c == 1 || c == 2
def hangsF (c : Int) : Bool := c == 4 || c == 6 || c == 5
def letF (c : Int) : Bool := c == 10 || c == 9
def inWF (c : Int) : Bool := c == 14 || c == 13 || c == 11
def inNF (c : Int) : Bool := c == 15 || c == 13 || c == 11
def joinF (c : Int) : Bool := letF c || c == 16 || c == 8
def BPost (b : Bool) (W : World) (e : Ending) (w' : World) : Prop := e = .returned (.bool b) ∧ w' = W
theorem ends_ok (c : Int) (W : World) : Calls Tryz.prog 96 #[.int .i64 c] W (BPost (endsF c) W) := by
  unfold endsF
  by_cases h1 : c = 3
  · subst h1; go_enter Tryz.func96, Tryz.ntmps96; go_wp2; go_ret; exact ⟨rfl, rfl⟩
  · by_cases h2 : c = 1
    · subst h2; go_enter Tryz.func96, Tryz.ntmps96; go_wp2; go_ret; exact ⟨rfl, rfl⟩
    · go_enter Tryz.func96, Tryz.ntmps96; go_wp2; go_ret; exact ⟨by first | rfl | simp [h1, h2], rfl⟩
theorem hangs_ok (c : Int) (W : World) : Calls Tryz.prog 97 #[.int .i64 c] W (BPost (hangsF c) W) := by
  unfold hangsF
  by_cases h1 : c = 4
  · subst h1; go_enter Tryz.func97, Tryz.ntmps97; go_wp2; go_ret; exact ⟨rfl, rfl⟩
  · by_cases h2 : c = 6
    · subst h2; go_enter Tryz.func97, Tryz.ntmps97; go_wp2; go_ret; exact ⟨rfl, rfl⟩
    · go_enter Tryz.func97, Tryz.ntmps97; go_wp2; go_ret; exact ⟨by first | rfl | simp [h1, h2], rfl⟩
theorem lettered_ok (c : Int) (W : World) : Calls Tryz.prog 140 #[.int .i64 c] W (BPost (letF c) W) := by
  unfold letF
  by_cases h1 : c = 10
  · subst h1; go_enter Tryz.func140, Tryz.ntmps140; go_wp2; go_ret; exact ⟨rfl, rfl⟩
  · go_enter Tryz.func140, Tryz.ntmps140; go_wp2; go_ret; exact ⟨by first | rfl | simp [h1], rfl⟩
theorem inWord_ok (c : Int) (W : World) : Calls Tryz.prog 141 #[.int .i64 c] W (BPost (inWF c) W) := by
  unfold inWF
  by_cases h1 : c = 14
  · subst h1; go_enter Tryz.func141, Tryz.ntmps141; go_wp2; go_ret; exact ⟨rfl, rfl⟩
  · by_cases h2 : c = 13
    · subst h2; go_enter Tryz.func141, Tryz.ntmps141; go_wp2; go_ret; exact ⟨rfl, rfl⟩
    · go_enter Tryz.func141, Tryz.ntmps141; go_wp2; go_ret; exact ⟨by first | rfl | simp [h1, h2], rfl⟩
theorem inNumber_ok (c : Int) (W : World) : Calls Tryz.prog 142 #[.int .i64 c] W (BPost (inNF c) W) := by
  unfold inNF
  by_cases h1 : c = 15
  · subst h1; go_enter Tryz.func142, Tryz.ntmps142; go_wp2; go_ret; exact ⟨rfl, rfl⟩
  · by_cases h2 : c = 13
    · subst h2; go_enter Tryz.func142, Tryz.ntmps142; go_wp2; go_ret; exact ⟨rfl, rfl⟩
    · go_enter Tryz.func142, Tryz.ntmps142; go_wp2; go_ret; exact ⟨by first | rfl | simp [h1, h2], rfl⟩
theorem wjoined_ok (c : Int) (W : World) : Calls Tryz.prog 143 #[.int .i64 c] W (BPost (joinF c) W) := by
  unfold joinF
  cases h : letF c with
  | true =>
    go_enter Tryz.func143, Tryz.ntmps143
    go_wp2_with (go_at_call 140; refine (lettered_ok c _).mono ?_; rintro e w1 ⟨rfl, rfl⟩; rw [h])
    go_ret
    exact ⟨rfl, rfl⟩
  | false =>
    by_cases h1 : c = 16
    · subst h1
      go_enter Tryz.func143, Tryz.ntmps143
      go_wp2_with (go_at_call 140; refine (lettered_ok 16 _).mono ?_; rintro e w1 ⟨rfl, rfl⟩; rw [h])
      go_ret
      exact ⟨rfl, rfl⟩
    · go_enter Tryz.func143, Tryz.ntmps143
      go_wp2_with (go_at_call 140; refine (lettered_ok c _).mono ?_; rintro e w1 ⟨rfl, rfl⟩; rw [h])
      go_ret
      exact ⟨by first | rfl | simp [h1], rfl⟩
end
section
open Go.Shelf Go.RowKit Go.Lib Go.Proofs.YtnfghboholehdaaGreatDoor.Am
def l1F (a q : Int) : Bool := letF a && letF q
def l2F (a q n : Int) : Bool := letF a && inWF q && letF n
def l3F (z a q : Int) : Bool := letF z && inWF a && letF q
def h1F (a q : Int) : Bool := a == 9 && q == 11
def h2F (a q n : Int) : Bool := a == 9 && q == 12 && n == 9
def h3F (z a q : Int) : Bool := z == 9 && a == 12 && q == 9
def d1F (a q : Int) : Bool := a == 16 && (q == 16 || letF q)
def d2F (a q : Int) : Bool := letF a && q == 16
def n1F (z a q : Int) : Bool := z == 16 && inNF a && q == 16
def n2F (a q n : Int) : Bool := a == 16 && inNF q && n == 16
def k1F (a q : Int) : Bool := a == 8 && q == 8 || (joinF a || a == 17) && q == 17 || a == 17 && joinF q
def lettersF (z a q n : Int) : Bool := l1F a q || l2F a q n || l3F z a q || h1F a q || h2F a q n || h3F z a q || d1F a q || d2F a q || n1F z a q || n2F a q n || k1F a q
set_option maxRecDepth 100000 in
set_option maxHeartbeats 8000000 in
theorem letters_ok (z a q n : Int) (W : World) : Calls Tryz.prog 99 #[.int .i64 z, .int .i64 a, .int .i64 q, .int .i64 n] W (BPost (lettersF z a q n) W) := by
  unfold lettersF
  go_enter Tryz.func99, Tryz.ntmps99
  go_upto_region 1 with fail
  go_cut [9] (fun c wx => c = .bool (l1F a q) ∧ W = wx)
  case first =>
    cases h0 : letF a
    case false =>
      go_wp2_with (go_at_call 140; refine (lettered_ok _ _).mono ?_; rintro e w1 ⟨rfl, rfl⟩; try rw [h0])
      go_meet
      exact ⟨by unfold l1F; rw [h0]; rfl, rfl⟩
    case true =>
      go_wp2_with (go_at_call 140; refine (lettered_ok _ _).mono ?_; rintro e w1 ⟨rfl, rfl⟩; try rw [h0])
      go_meet
      exact ⟨by unfold l1F; rw [h0]; rfl, rfl⟩
  case rest =>
    obtain ⟨rfl, rfl⟩ := hcut
    cases e1 : l1F a q
    case true =>
      go_wp2_with fail
      go_ret
      exact ⟨by simp [e1], rfl⟩
    case false =>
      have E1 := Lib.hid e1; clear e1
      go_upto_region 2 with fail
      go_cut [9] (fun c wx => c = .bool (l2F a q n) ∧ W = wx)
      case first =>
        cases h1 : letF a
        case false =>
          go_wp2_with (go_at_call 140; refine (lettered_ok _ _).mono ?_; rintro e w1 ⟨rfl, rfl⟩; try rw [h1])
          go_meet
          exact ⟨by unfold l2F; rw [h1]; rfl, rfl⟩
        case true =>
          cases h2 : inWF q
          case false =>
            go_wp2_with (first | (go_at_call 141; refine (inWord_ok _ _).mono ?_; rintro e w1 ⟨rfl, rfl⟩; try rw [h2]) | (go_at_call 140; refine (lettered_ok _ _).mono ?_; rintro e w1 ⟨rfl, rfl⟩; try rw [h1]))
            go_meet
            exact ⟨by unfold l2F; rw [h1, h2]; rfl, rfl⟩
          case true =>
            go_wp2_with (first | (go_at_call 141; refine (inWord_ok _ _).mono ?_; rintro e w1 ⟨rfl, rfl⟩; try rw [h2]) | (go_at_call 140; refine (lettered_ok _ _).mono ?_; rintro e w1 ⟨rfl, rfl⟩; try rw [h1]))
            go_meet
            exact ⟨by unfold l2F; rw [h1, h2]; rfl, rfl⟩
      case rest =>
        obtain ⟨rfl, rfl⟩ := hcut
        cases e2 : l2F a q n
        case true =>
          go_wp2_with fail
          go_ret
          exact ⟨by simp [e2], rfl⟩
        case false =>
          have E2 := Lib.hid e2; clear e2
          go_upto_region 3 with fail
          go_cut [9] (fun c wx => c = .bool (l3F z a q) ∧ W = wx)
          case first =>
            cases h3 : letF z
            case false =>
              go_wp2_with (go_at_call 140; refine (lettered_ok _ _).mono ?_; rintro e w1 ⟨rfl, rfl⟩; try rw [h3])
              go_meet
              exact ⟨by unfold l3F; rw [h3]; rfl, rfl⟩
            case true =>
              cases h4 : inWF a
              case false =>
                go_wp2_with (first | (go_at_call 141; refine (inWord_ok _ _).mono ?_; rintro e w1 ⟨rfl, rfl⟩; try rw [h4]) | (go_at_call 140; refine (lettered_ok _ _).mono ?_; rintro e w1 ⟨rfl, rfl⟩; try rw [h3]))
                go_meet
                exact ⟨by unfold l3F; rw [h3, h4]; rfl, rfl⟩
              case true =>
                go_wp2_with (first | (go_at_call 141; refine (inWord_ok _ _).mono ?_; rintro e w1 ⟨rfl, rfl⟩; try rw [h4]) | (go_at_call 140; refine (lettered_ok _ _).mono ?_; rintro e w1 ⟨rfl, rfl⟩; try rw [h3]))
                go_meet
                exact ⟨by unfold l3F; rw [h3, h4]; rfl, rfl⟩
          case rest =>
            obtain ⟨rfl, rfl⟩ := hcut
            cases e3 : l3F z a q
            case true =>
              go_wp2_with fail
              go_ret
              exact ⟨by simp [e3], rfl⟩
            case false =>
              have E3 := Lib.hid e3; clear e3
              go_upto_region 5 with fail
              go_cut [36] (fun c wx => c = .bool (h1F a q) ∧ W = wx)
              case first =>
                by_cases h5 : a = 9
                · subst h5
                  go_wp2_with fail
                  go_meet
                  exact ⟨by unfold h1F; rfl, rfl⟩
                · have b5 : (a == 9) = false := by simp [h5]
                  go_wp2_with fail
                  go_meet
                  exact ⟨by unfold h1F; rw [b5]; rfl, rfl⟩
              case rest =>
                obtain ⟨rfl, rfl⟩ := hcut
                cases e5 : h1F a q
                case true =>
                  go_wp2_with fail
                  go_ret
                  exact ⟨by simp [e5], rfl⟩
                case false =>
                  have E5 := Lib.hid e5; clear e5
                  go_upto_region 6 with fail
                  go_cut [36] (fun c wx => c = .bool (h2F a q n) ∧ W = wx)
                  case first =>
                    by_cases h6 : a = 9
                    · subst h6
                      by_cases h7 : q = 12
                      · subst h7
                        go_wp2_with fail
                        go_meet
                        exact ⟨by unfold h2F; rfl, rfl⟩
                      · have b7 : (q == 12) = false := by simp [h7]
                        go_wp2_with fail
                        go_meet
                        exact ⟨by unfold h2F; rw [b7]; rfl, rfl⟩
                    · have b6 : (a == 9) = false := by simp [h6]
                      go_wp2_with fail
                      go_meet
                      exact ⟨by unfold h2F; rw [b6]; rfl, rfl⟩
                  case rest =>
                    obtain ⟨rfl, rfl⟩ := hcut
                    cases e6 : h2F a q n
                    case true =>
                      go_wp2_with fail
                      go_ret
                      exact ⟨by simp [e6], rfl⟩
                    case false =>
                      have E6 := Lib.hid e6; clear e6
                      go_upto_region 7 with fail
                      go_cut [36] (fun c wx => c = .bool (h3F z a q) ∧ W = wx)
                      case first =>
                        by_cases h8 : z = 9
                        · subst h8
                          by_cases h9 : a = 12
                          · subst h9
                            go_wp2_with fail
                            go_meet
                            exact ⟨by unfold h3F; rfl, rfl⟩
                          · have b9 : (a == 12) = false := by simp [h9]
                            go_wp2_with fail
                            go_meet
                            exact ⟨by unfold h3F; rw [b9]; rfl, rfl⟩
                        · have b8 : (z == 9) = false := by simp [h8]
                          go_wp2_with fail
                          go_meet
                          exact ⟨by unfold h3F; rw [b8]; rfl, rfl⟩
                      case rest =>
                        obtain ⟨rfl, rfl⟩ := hcut
                        cases e7 : h3F z a q
                        case true =>
                          go_wp2_with fail
                          go_ret
                          exact ⟨by simp [e7], rfl⟩
                        case false =>
                          have E7 := Lib.hid e7; clear e7
                          go_upto_region 9 with fail
                          go_cut [63] (fun c wx => c = .bool (d1F a q) ∧ W = wx)
                          case first =>
                            by_cases h10 : a = 16
                            · subst h10
                              by_cases h11 : q = 16
                              · subst h11
                                go_wp2_with fail
                                go_meet
                                exact ⟨by unfold d1F; rfl, rfl⟩
                              · have b11 : (q == 16) = false := by simp [h11]
                                go_wp2_with (go_at_call 140; refine (lettered_ok _ _).mono ?_; rintro e w1 ⟨rfl, rfl⟩)
                                go_meet
                                exact ⟨by unfold d1F; rw [b11]; rfl, rfl⟩
                            · have b10 : (a == 16) = false := by simp [h10]
                              go_wp2_with fail
                              go_meet
                              exact ⟨by unfold d1F; rw [b10]; rfl, rfl⟩
                          case rest =>
                            obtain ⟨rfl, rfl⟩ := hcut
                            cases e9 : d1F a q
                            case true =>
                              go_wp2_with fail
                              go_ret
                              exact ⟨by simp [e9], rfl⟩
                            case false =>
                              have E9 := Lib.hid e9; clear e9
                              go_upto_region 10 with fail
                              go_cut [63] (fun c wx => c = .bool (d2F a q) ∧ W = wx)
                              case first =>
                                cases h12 : letF a
                                case false =>
                                  go_wp2_with (go_at_call 140; refine (lettered_ok _ _).mono ?_; rintro e w1 ⟨rfl, rfl⟩; try rw [h12])
                                  go_meet
                                  exact ⟨by unfold d2F; rw [h12]; rfl, rfl⟩
                                case true =>
                                  go_wp2_with (go_at_call 140; refine (lettered_ok _ _).mono ?_; rintro e w1 ⟨rfl, rfl⟩; try rw [h12])
                                  go_meet
                                  exact ⟨by unfold d2F; rw [h12]; rfl, rfl⟩
                              case rest =>
                                obtain ⟨rfl, rfl⟩ := hcut
                                cases e10 : d2F a q
                                case true =>
                                  go_wp2_with fail
                                  go_ret
                                  exact ⟨by simp [e10], rfl⟩
                                case false =>
                                  have E10 := Lib.hid e10; clear e10
                                  go_upto_region 12 with fail
                                  go_cut [80] (fun c wx => c = .bool (n1F z a q) ∧ W = wx)
                                  case first =>
                                    by_cases h13 : z = 16
                                    · subst h13
                                      cases h14 : inNF a
                                      case false =>
                                        go_wp2_with (go_at_call 142; refine (inNumber_ok _ _).mono ?_; rintro e w1 ⟨rfl, rfl⟩; try rw [h14])
                                        go_meet
                                        exact ⟨by unfold n1F; rw [h14]; rfl, rfl⟩
                                      case true =>
                                        go_wp2_with (go_at_call 142; refine (inNumber_ok _ _).mono ?_; rintro e w1 ⟨rfl, rfl⟩; try rw [h14])
                                        go_meet
                                        exact ⟨by unfold n1F; rw [h14]; rfl, rfl⟩
                                    · have b13 : (z == 16) = false := by simp [h13]
                                      go_wp2_with fail
                                      go_meet
                                      exact ⟨by unfold n1F; rw [b13]; rfl, rfl⟩
                                  case rest =>
                                    obtain ⟨rfl, rfl⟩ := hcut
                                    cases e12 : n1F z a q
                                    case true =>
                                      go_wp2_with fail
                                      go_ret
                                      exact ⟨by simp [e12], rfl⟩
                                    case false =>
                                      have E12 := Lib.hid e12; clear e12
                                      go_upto_region 13 with fail
                                      go_cut [80] (fun c wx => c = .bool (n2F a q n) ∧ W = wx)
                                      case first =>
                                        by_cases h15 : a = 16
                                        · subst h15
                                          cases h16 : inNF q
                                          case false =>
                                            go_wp2_with (go_at_call 142; refine (inNumber_ok _ _).mono ?_; rintro e w1 ⟨rfl, rfl⟩; try rw [h16])
                                            go_meet
                                            exact ⟨by unfold n2F; rw [h16]; rfl, rfl⟩
                                          case true =>
                                            go_wp2_with (go_at_call 142; refine (inNumber_ok _ _).mono ?_; rintro e w1 ⟨rfl, rfl⟩; try rw [h16])
                                            go_meet
                                            exact ⟨by unfold n2F; rw [h16]; rfl, rfl⟩
                                        · have b15 : (a == 16) = false := by simp [h15]
                                          go_wp2_with fail
                                          go_meet
                                          exact ⟨by unfold n2F; rw [b15]; rfl, rfl⟩
                                      case rest =>
                                        obtain ⟨rfl, rfl⟩ := hcut
                                        cases e13 : n2F a q n
                                        case true =>
                                          go_wp2_with fail
                                          go_ret
                                          exact ⟨by simp [e13], rfl⟩
                                        case false =>
                                          have E13 := Lib.hid e13; clear e13
                                          go_upto_region 15 with fail
                                          by_cases h17 : a = 8
                                          · subst h17
                                            by_cases h18 : q = 8
                                            · subst h18
                                              go_wp2_with fail
                                              go_ret
                                              exact ⟨by unfold k1F; rw [E1.out, E2.out, E3.out, E5.out, E6.out, E7.out, E9.out, E10.out, E12.out, E13.out]; rfl, rfl⟩
                                            · have b18 : (q == 8) = false := by simp [h18]
                                              cases h19 : joinF 8
                                              case false =>
                                                go_wp2_with (go_at_call 143; refine (wjoined_ok _ _).mono ?_; rintro e w1 ⟨rfl, rfl⟩; try rw [h19])
                                                go_ret
                                                exact ⟨by unfold k1F; rw [E1.out, E2.out, E3.out, E5.out, E6.out, E7.out, E9.out, E10.out, E12.out, E13.out, b18, h19]; rfl, rfl⟩
                                              case true =>
                                                by_cases h21 : q = 17
                                                · subst h21
                                                  go_wp2_with (go_at_call 143; refine (wjoined_ok _ _).mono ?_; rintro e w1 ⟨rfl, rfl⟩; try rw [h19])
                                                  go_ret
                                                  exact ⟨by unfold k1F; rw [E1.out, E2.out, E3.out, E5.out, E6.out, E7.out, E9.out, E10.out, E12.out, E13.out, b18, h19]; rfl, rfl⟩
                                                · have b21 : (q == 17) = false := by simp [h21]
                                                  go_wp2_with (go_at_call 143; refine (wjoined_ok _ _).mono ?_; rintro e w1 ⟨rfl, rfl⟩; try rw [h19])
                                                  go_ret
                                                  exact ⟨by unfold k1F; rw [E1.out, E2.out, E3.out, E5.out, E6.out, E7.out, E9.out, E10.out, E12.out, E13.out, b18, h19, b21]; rfl, rfl⟩
                                          · have b17 : (a == 8) = false := by simp [h17]
                                            cases h23 : joinF a
                                            case false =>
                                              by_cases h24 : a = 17
                                              · subst h24
                                                by_cases h25 : q = 17
                                                · subst h25
                                                  go_wp2_with (go_at_call 143; refine (wjoined_ok _ _).mono ?_; rintro e w1 ⟨rfl, rfl⟩; try rw [h23])
                                                  go_ret
                                                  exact ⟨by unfold k1F; rw [E1.out, E2.out, E3.out, E5.out, E6.out, E7.out, E9.out, E10.out, E12.out, E13.out, b17, h23]; rfl, rfl⟩
                                                · have b25 : (q == 17) = false := by simp [h25]
                                                  go_wp2_with (go_at_call 143; refine (wjoined_ok _ _).mono ?_; rintro e w1 ⟨rfl, rfl⟩; try rw [h23])
                                                  go_ret
                                                  exact ⟨by unfold k1F; rw [E1.out, E2.out, E3.out, E5.out, E6.out, E7.out, E9.out, E10.out, E12.out, E13.out, b17, h23, b25]; rfl, rfl⟩
                                              · have b24 : (a == 17) = false := by simp [h24]
                                                go_wp2_with (go_at_call 143; refine (wjoined_ok _ _).mono ?_; rintro e w1 ⟨rfl, rfl⟩; try rw [h23])
                                                go_ret
                                                exact ⟨by unfold k1F; rw [E1.out, E2.out, E3.out, E5.out, E6.out, E7.out, E9.out, E10.out, E12.out, E13.out, b17, h23, b24]; rfl, rfl⟩
                                            case true =>
                                              by_cases h26 : q = 17
                                              · subst h26
                                                go_wp2_with (go_at_call 143; refine (wjoined_ok _ _).mono ?_; rintro e w1 ⟨rfl, rfl⟩; try rw [h23])
                                                go_ret
                                                exact ⟨by unfold k1F; rw [E1.out, E2.out, E3.out, E5.out, E6.out, E7.out, E9.out, E10.out, E12.out, E13.out, b17, h23]; rfl, rfl⟩
                                              · have b26 : (q == 17) = false := by simp [h26]
                                                by_cases h27 : a = 17
                                                · subst h27
                                                  go_wp2_with (go_at_call 143; refine (wjoined_ok _ _).mono ?_; rintro e w1 ⟨rfl, rfl⟩; try rw [h23])
                                                  go_ret
                                                  exact ⟨by unfold k1F; rw [E1.out, E2.out, E3.out, E5.out, E6.out, E7.out, E9.out, E10.out, E12.out, E13.out, b17, h23, b26]; rfl, rfl⟩
                                                · have b27 : (a == 17) = false := by simp [h27]
                                                  go_wp2_with (go_at_call 143; refine (wjoined_ok _ _).mono ?_; rintro e w1 ⟨rfl, rfl⟩; try rw [h23])
                                                  go_ret
                                                  exact ⟨by unfold k1F; rw [E1.out, E2.out, E3.out, E5.out, E6.out, E7.out, E9.out, E10.out, E12.out, E13.out, b17, h23, b26, b27]; rfl, rfl⟩
end
end Go.Proofs.YtnfghboholehdaaGreatDoor.foldOnce
