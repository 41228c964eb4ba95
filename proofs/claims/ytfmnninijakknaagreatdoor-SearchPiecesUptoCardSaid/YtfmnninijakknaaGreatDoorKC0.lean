/- SearchPieces's closed run: calls whose results are known. -/
import Derived.Test.YtfmnninijakknaaGreatDoorTC
namespace Go.Proofs.YtfmnninijakknaaGreatDoor.searchPieces
noncomputable def k56 : Am.Known := ⟨41, (.cons (.str ⟨3, 6579744⟩) .nil), (.slice 64 0 1 1 false), [.cells 21 (.cons (.int .i32 (.ofNat 223)) .nil)]⟩
theorem k56Ok : Am.OneOk Tryz.prog tabsB k56 :=
  Am.one_of_run (orc := orcC) (N := 999) (R := [66]) mixed progOk (extOk _) orcCOk (by kernel_rfl) (by kernel_rfl) (by kernel_rfl) (by kernel_rfl)
noncomputable def k57 : Am.Known := ⟨41, (.cons (.str ⟨4, 543450656⟩) .nil), (.slice 64 0 1 1 false), [.cells 21 (.cons (.int .i32 (.ofNat 223)) .nil)]⟩
theorem k57Ok : Am.OneOk Tryz.prog tabsB k57 :=
  Am.one_of_run (orc := orcC) (N := 999) (R := [66]) mixed progOk (extOk _) orcCOk (by kernel_rfl) (by kernel_rfl) (by kernel_rfl) (by kernel_rfl)
noncomputable def k59 : Am.Known := ⟨41, (.cons (.str ⟨7, 9065692954702624⟩) .nil), (.slice 64 0 2 1 false), [.cells 21 (.cons (.int .i32 (.ofNat 83)) (.cons (.int .i32 (.ofNat 83)) .nil))]⟩
theorem k59Ok : Am.OneOk Tryz.prog tabsB k59 :=
  Am.one_of_run (orc := orcC) (N := 999) (R := [68]) mixed progOk (extOk _) orcCOk (by kernel_rfl) (by kernel_rfl) (by kernel_rfl) (by kernel_rfl)
noncomputable def k61 : Am.Known := ⟨41, (.cons (.str ⟨7, 9065692954833696⟩) .nil), (.slice 64 0 2 1 false), [.cells 21 (.cons (.int .i32 (.ofNat 83)) (.cons (.int .i32 (.ofNat 115)) .nil))]⟩
theorem k61Ok : Am.OneOk Tryz.prog tabsB k61 :=
  Am.one_of_run (orc := orcC) (N := 999) (R := [68]) mixed progOk (extOk _) orcCOk (by kernel_rfl) (by kernel_rfl) (by kernel_rfl) (by kernel_rfl)
noncomputable def k62 : Am.Known := ⟨41, (.cons (.str ⟨6, 35421453039411⟩) .nil), (.slice 64 0 2 1 false), [.cells 21 (.cons (.int .i32 (.ofNat 115)) (.cons (.int .i32 (.ofNat 115)) .nil))]⟩
theorem k62Ok : Am.OneOk Tryz.prog tabsB k62 :=
  Am.one_of_run (orc := orcC) (N := 999) (R := [68]) mixed progOk (extOk _) orcCOk (by kernel_rfl) (by kernel_rfl) (by kernel_rfl) (by kernel_rfl)
noncomputable def k64 : Am.Known := ⟨41, (.cons (.str ⟨4, 825438240⟩) .nil), (.slice 64 0 1 1 false), [.cells 21 (.cons (.int .i32 (.ofNat 304)) .nil)]⟩
theorem k64Ok : Am.OneOk Tryz.prog tabsB k64 :=
  Am.one_of_run (orc := orcC) (N := 999) (R := [66]) mixed progOk (extOk _) orcCOk (by kernel_rfl) (by kernel_rfl) (by kernel_rfl) (by kernel_rfl)
noncomputable def k67 : Am.Known := ⟨41, (.cons (.str ⟨8, 2321105468416603936⟩) .nil), (.slice 64 0 2 1 false), [.cells 21 (.cons (.int .i32 (.ofNat 105)) (.cons (.int .i32 (.ofNat 775)) .nil))]⟩
theorem k67Ok : Am.OneOk Tryz.prog tabsB k67 :=
  Am.one_of_run (orc := orcC) (N := 999) (R := [68]) mixed progOk (extOk _) orcCOk (by kernel_rfl) (by kernel_rfl) (by kernel_rfl) (by kernel_rfl)
noncomputable def k68 : Am.Known := ⟨41, (.cons (.str ⟨5, 138264391712⟩) .nil), (.slice 64 0 1 1 false), [.cells 21 (.cons (.int .i32 (.ofNat 304)) .nil)]⟩
theorem k68Ok : Am.OneOk Tryz.prog tabsB k68 :=
  Am.one_of_run (orc := orcC) (N := 999) (R := [66]) mixed progOk (extOk _) orcCOk (by kernel_rfl) (by kernel_rfl) (by kernel_rfl) (by kernel_rfl)
noncomputable def k69 : Am.Known := ⟨41, (.cons (.str ⟨7, 9066818236002359⟩) .nil), (.slice 64 0 2 1 false), [.cells 21 (.cons (.int .i32 (.ofNat 105)) (.cons (.int .i32 (.ofNat 775)) .nil))]⟩
theorem k69Ok : Am.OneOk Tryz.prog tabsB k69 :=
  Am.one_of_run (orc := orcC) (N := 999) (R := [68]) mixed progOk (extOk _) orcCOk (by kernel_rfl) (by kernel_rfl) (by kernel_rfl) (by kernel_rfl)
noncomputable def k71 : Am.Known := ⟨41, (.cons (.str ⟨4, 825438496⟩) .nil), (.slice 64 0 1 1 false), [.cells 21 (.cons (.int .i32 (.ofNat 305)) .nil)]⟩
theorem k71Ok : Am.OneOk Tryz.prog tabsB k71 :=
  Am.one_of_run (orc := orcC) (N := 999) (R := [66]) mixed progOk (extOk _) orcCOk (by kernel_rfl) (by kernel_rfl) (by kernel_rfl) (by kernel_rfl)
noncomputable def k72 : Am.Known := ⟨41, (.cons (.str ⟨5, 138264391968⟩) .nil), (.slice 64 0 1 1 false), [.cells 21 (.cons (.int .i32 (.ofNat 305)) .nil)]⟩
theorem k72Ok : Am.OneOk Tryz.prog tabsB k72 :=
  Am.one_of_run (orc := orcC) (N := 999) (R := [66]) mixed progOk (extOk _) orcCOk (by kernel_rfl) (by kernel_rfl) (by kernel_rfl) (by kernel_rfl)
noncomputable def k74 : Am.Known := ⟨41, (.cons (.str ⟨4, 540293408⟩) .nil), (.slice 64 0 1 1 false), [.cells 21 (.cons (.int .i32 (.ofNat 73)) .nil)]⟩
theorem k74Ok : Am.OneOk Tryz.prog tabsB k74 :=
  Am.one_of_run (orc := orcC) (N := 999) (R := [66]) mixed progOk (extOk _) orcCOk (by kernel_rfl) (by kernel_rfl) (by kernel_rfl) (by kernel_rfl)
noncomputable def k75 : Am.Known := ⟨41, (.cons (.str ⟨4, 540095281⟩) .nil), (.slice 64 0 1 1 false), [.cells 21 (.cons (.int .i32 (.ofNat 305)) .nil)]⟩
theorem k75Ok : Am.OneOk Tryz.prog tabsB k75 :=
  Am.one_of_run (orc := orcC) (N := 999) (R := [66]) mixed progOk (extOk _) orcCOk (by kernel_rfl) (by kernel_rfl) (by kernel_rfl) (by kernel_rfl)
noncomputable def k77 : Am.Known := ⟨41, (.cons (.str ⟨4, 825506080⟩) .nil), (.slice 64 0 1 1 false), [.cells 21 (.cons (.int .i32 (.ofNat 329)) .nil)]⟩
theorem k77Ok : Am.OneOk Tryz.prog tabsB k77 :=
  Am.one_of_run (orc := orcC) (N := 999) (R := [66]) mixed progOk (extOk _) orcCOk (by kernel_rfl) (by kernel_rfl) (by kernel_rfl) (by kernel_rfl)
noncomputable def k78 : Am.Known := ⟨41, (.cons (.str ⟨5, 138264459552⟩) .nil), (.slice 64 0 1 1 false), [.cells 21 (.cons (.int .i32 (.ofNat 329)) .nil)]⟩
theorem k78Ok : Am.OneOk Tryz.prog tabsB k78 :=
  Am.one_of_run (orc := orcC) (N := 999) (R := [66]) mixed progOk (extOk _) orcCOk (by kernel_rfl) (by kernel_rfl) (by kernel_rfl) (by kernel_rfl)
noncomputable def k81 : Am.Known := ⟨41, (.cons (.str ⟨8, 2320024935930815776⟩) .nil), (.slice 64 0 2 1 false), [.cells 21 (.cons (.int .i32 (.ofNat 700)) (.cons (.int .i32 (.ofNat 78)) .nil))]⟩
theorem k81Ok : Am.OneOk Tryz.prog tabsB k81 :=
  Am.one_of_run (orc := orcC) (N := 999) (R := [68]) mixed progOk (extOk _) orcCOk (by kernel_rfl) (by kernel_rfl) (by kernel_rfl) (by kernel_rfl)
noncomputable def k83 : Am.Known := ⟨41, (.cons (.str ⟨7, 9062597405980261⟩) .nil), (.slice 64 0 2 1 false), [.cells 21 (.cons (.int .i32 (.ofNat 700)) (.cons (.int .i32 (.ofNat 110)) .nil))]⟩
theorem k83Ok : Am.OneOk Tryz.prog tabsB k83 :=
  Am.one_of_run (orc := orcC) (N := 999) (R := [68]) mixed progOk (extOk _) orcCOk (by kernel_rfl) (by kernel_rfl) (by kernel_rfl) (by kernel_rfl)
noncomputable def k85 : Am.Known := ⟨41, (.cons (.str ⟨4, 825714208⟩) .nil), (.slice 64 0 1 1 false), [.cells 21 (.cons (.int .i32 (.ofNat 383)) .nil)]⟩
theorem k85Ok : Am.OneOk Tryz.prog tabsB k85 :=
  Am.one_of_run (orc := orcC) (N := 999) (R := [66]) mixed progOk (extOk _) orcCOk (by kernel_rfl) (by kernel_rfl) (by kernel_rfl) (by kernel_rfl)
noncomputable def k86 : Am.Known := ⟨41, (.cons (.str ⟨5, 138264667680⟩) .nil), (.slice 64 0 1 1 false), [.cells 21 (.cons (.int .i32 (.ofNat 383)) .nil)]⟩
theorem k86Ok : Am.OneOk Tryz.prog tabsB k86 :=
  Am.one_of_run (orc := orcC) (N := 999) (R := [66]) mixed progOk (extOk _) orcCOk (by kernel_rfl) (by kernel_rfl) (by kernel_rfl) (by kernel_rfl)
noncomputable def k87 : Am.Known := ⟨41, (.cons (.str ⟨4, 540357408⟩) .nil), (.slice 64 0 1 1 false), [.cells 21 (.cons (.int .i32 (.ofNat 83)) .nil)]⟩
theorem k87Ok : Am.OneOk Tryz.prog tabsB k87 :=
  Am.one_of_run (orc := orcC) (N := 999) (R := [66]) mixed progOk (extOk _) orcCOk (by kernel_rfl) (by kernel_rfl) (by kernel_rfl) (by kernel_rfl)
noncomputable def k88 : Am.Known := ⟨41, (.cons (.str ⟨3, 2111283⟩) .nil), (.slice 64 0 1 1 false), [.cells 21 (.cons (.int .i32 (.ofNat 115)) .nil)]⟩
theorem k88Ok : Am.OneOk Tryz.prog tabsB k88 :=
  Am.one_of_run (orc := orcC) (N := 999) (R := [66]) mixed progOk (extOk _) orcCOk (by kernel_rfl) (by kernel_rfl) (by kernel_rfl) (by kernel_rfl)
noncomputable def k90 : Am.Known := ⟨41, (.cons (.str ⟨4, 828584992⟩) .nil), (.slice 64 0 1 1 false), [.cells 21 (.cons (.int .i32 (.ofNat 452)) .nil)]⟩
theorem k90Ok : Am.OneOk Tryz.prog tabsB k90 :=
  Am.one_of_run (orc := orcC) (N := 999) (R := [66]) mixed progOk (extOk _) orcCOk (by kernel_rfl) (by kernel_rfl) (by kernel_rfl) (by kernel_rfl)
noncomputable def k92 : Am.Known := ⟨41, (.cons (.str ⟨5, 138267538976⟩) .nil), (.slice 64 0 1 1 false), [.cells 21 (.cons (.int .i32 (.ofNat 454)) .nil)]⟩
theorem k92Ok : Am.OneOk Tryz.prog tabsB k92 :=
  Am.one_of_run (orc := orcC) (N := 999) (R := [66]) mixed progOk (extOk _) orcCOk (by kernel_rfl) (by kernel_rfl) (by kernel_rfl) (by kernel_rfl)
noncomputable def k93 : Am.Known := ⟨41, (.cons (.str ⟨5, 138267538464⟩) .nil), (.slice 64 0 1 1 false), [.cells 21 (.cons (.int .i32 (.ofNat 452)) .nil)]⟩
theorem k93Ok : Am.OneOk Tryz.prog tabsB k93 :=
  Am.one_of_run (orc := orcC) (N := 999) (R := [66]) mixed progOk (extOk _) orcCOk (by kernel_rfl) (by kernel_rfl) (by kernel_rfl) (by kernel_rfl)
noncomputable def k95 : Am.Known := ⟨41, (.cons (.str ⟨5, 138267538720⟩) .nil), (.slice 64 0 1 1 false), [.cells 21 (.cons (.int .i32 (.ofNat 453)) .nil)]⟩
theorem k95Ok : Am.OneOk Tryz.prog tabsB k95 :=
  Am.one_of_run (orc := orcC) (N := 999) (R := [66]) mixed progOk (extOk _) orcCOk (by kernel_rfl) (by kernel_rfl) (by kernel_rfl) (by kernel_rfl)
noncomputable def k96 : Am.Known := ⟨41, (.cons (.str ⟨4, 540107574⟩) .nil), (.slice 64 0 1 1 false), [.cells 21 (.cons (.int .i32 (.ofNat 454)) .nil)]⟩
theorem k96Ok : Am.OneOk Tryz.prog tabsB k96 :=
  Am.one_of_run (orc := orcC) (N := 999) (R := [66]) mixed progOk (extOk _) orcCOk (by kernel_rfl) (by kernel_rfl) (by kernel_rfl) (by kernel_rfl)
noncomputable def k97 : Am.Known := ⟨41, (.cons (.str ⟨4, 828585248⟩) .nil), (.slice 64 0 1 1 false), [.cells 21 (.cons (.int .i32 (.ofNat 453)) .nil)]⟩
theorem k97Ok : Am.OneOk Tryz.prog tabsB k97 :=
  Am.one_of_run (orc := orcC) (N := 999) (R := [66]) mixed progOk (extOk _) orcCOk (by kernel_rfl) (by kernel_rfl) (by kernel_rfl) (by kernel_rfl)
noncomputable def k98 : Am.Known := ⟨41, (.cons (.str ⟨4, 828585504⟩) .nil), (.slice 64 0 1 1 false), [.cells 21 (.cons (.int .i32 (.ofNat 454)) .nil)]⟩
theorem k98Ok : Am.OneOk Tryz.prog tabsB k98 :=
  Am.one_of_run (orc := orcC) (N := 999) (R := [66]) mixed progOk (extOk _) orcCOk (by kernel_rfl) (by kernel_rfl) (by kernel_rfl) (by kernel_rfl)
noncomputable def k100 : Am.Known := ⟨41, (.cons (.str ⟨4, 828780576⟩) .nil), (.slice 64 0 1 1 false), [.cells 21 (.cons (.int .i32 (.ofNat 496)) .nil)]⟩
theorem k100Ok : Am.OneOk Tryz.prog tabsB k100 :=
  Am.one_of_run (orc := orcC) (N := 999) (R := [66]) mixed progOk (extOk _) orcCOk (by kernel_rfl) (by kernel_rfl) (by kernel_rfl) (by kernel_rfl)
noncomputable def k101 : Am.Known := ⟨41, (.cons (.str ⟨5, 138267734048⟩) .nil), (.slice 64 0 1 1 false), [.cells 21 (.cons (.int .i32 (.ofNat 496)) .nil)]⟩
theorem k101Ok : Am.OneOk Tryz.prog tabsB k101 :=
  Am.one_of_run (orc := orcC) (N := 999) (R := [66]) mixed progOk (extOk _) orcCOk (by kernel_rfl) (by kernel_rfl) (by kernel_rfl) (by kernel_rfl)
noncomputable def k104 : Am.Known := ⟨41, (.cons (.str ⟨8, 2320586498928304928⟩) .nil), (.slice 64 0 2 1 false), [.cells 21 (.cons (.int .i32 (.ofNat 74)) (.cons (.int .i32 (.ofNat 780)) .nil))]⟩
theorem k104Ok : Am.OneOk Tryz.prog tabsB k104 :=
  Am.one_of_run (orc := orcC) (N := 999) (R := [68]) mixed progOk (extOk _) orcCOk (by kernel_rfl) (by kernel_rfl) (by kernel_rfl) (by kernel_rfl)
noncomputable def k106 : Am.Known := ⟨41, (.cons (.str ⟨7, 9066990034694243⟩) .nil), (.slice 64 0 2 1 false), [.cells 21 (.cons (.int .i32 (.ofNat 106)) (.cons (.int .i32 (.ofNat 780)) .nil))]⟩
theorem k106Ok : Am.OneOk Tryz.prog tabsB k106 :=
  Am.one_of_run (orc := orcC) (N := 999) (R := [68]) mixed progOk (extOk _) orcCOk (by kernel_rfl) (by kernel_rfl) (by kernel_rfl) (by kernel_rfl)
noncomputable def k108 : Am.Known := ⟨41, (.cons (.str ⟨4, 859385888⟩) .nil), (.slice 64 0 1 1 false), [.cells 21 (.cons (.int .i32 (.ofNat 912)) .nil)]⟩
theorem k108Ok : Am.OneOk Tryz.prog tabsB k108 :=
  Am.one_of_run (orc := orcC) (N := 999) (R := [66]) mixed progOk (extOk _) orcCOk (by kernel_rfl) (by kernel_rfl) (by kernel_rfl) (by kernel_rfl)
noncomputable def k109 : Am.Known := ⟨41, (.cons (.str ⟨5, 138298339360⟩) .nil), (.slice 64 0 1 1 false), [.cells 21 (.cons (.int .i32 (.ofNat 912)) .nil)]⟩
theorem k109Ok : Am.OneOk Tryz.prog tabsB k109 :=
  Am.one_of_run (orc := orcC) (N := 999) (R := [66]) mixed progOk (extOk _) orcCOk (by kernel_rfl) (by kernel_rfl) (by kernel_rfl) (by kernel_rfl)
noncomputable def k113 : Am.Known := ⟨41, (.cons (.str ⟨13, 2551154114497939279095576670496⟩) .nil), (.slice 64 0 3 1 false), [.cells 21 (.cons (.int .i32 (.ofNat 921)) (.cons (.int .i32 (.ofNat 776)) (.cons (.int .i32 (.ofNat 769)) .nil)))]⟩
theorem k113Ok : Am.OneOk Tryz.prog tabsB k113 :=
  Am.one_of_run (orc := orcC) (N := 999) (R := [70]) mixed progOk (extOk _) orcCOk (by kernel_rfl) (by kernel_rfl) (by kernel_rfl) (by kernel_rfl)
noncomputable def k115 : Am.Known := ⟨41, (.cons (.str ⟨12, 9965639376783372964420857905⟩) .nil), (.slice 64 0 3 1 false), [.cells 21 (.cons (.int .i32 (.ofNat 953)) (.cons (.int .i32 (.ofNat 776)) (.cons (.int .i32 (.ofNat 769)) .nil)))]⟩
theorem k115Ok : Am.OneOk Tryz.prog tabsB k115 :=
  Am.one_of_run (orc := orcC) (N := 999) (R := [70]) mixed progOk (extOk _) orcCOk (by kernel_rfl) (by kernel_rfl) (by kernel_rfl) (by kernel_rfl)
noncomputable def k117 : Am.Known := ⟨41, (.cons (.str ⟨4, 862138912⟩) .nil), (.slice 64 0 1 1 false), [.cells 21 (.cons (.int .i32 (.ofNat 962)) .nil)]⟩
theorem k117Ok : Am.OneOk Tryz.prog tabsB k117 :=
  Am.one_of_run (orc := orcC) (N := 999) (R := [66]) mixed progOk (extOk _) orcCOk (by kernel_rfl) (by kernel_rfl) (by kernel_rfl) (by kernel_rfl)
noncomputable def k118 : Am.Known := ⟨41, (.cons (.str ⟨5, 138301092384⟩) .nil), (.slice 64 0 1 1 false), [.cells 21 (.cons (.int .i32 (.ofNat 962)) .nil)]⟩
theorem k118Ok : Am.OneOk Tryz.prog tabsB k118 :=
  Am.one_of_run (orc := orcC) (N := 999) (R := [66]) mixed progOk (extOk _) orcCOk (by kernel_rfl) (by kernel_rfl) (by kernel_rfl) (by kernel_rfl)
noncomputable def k120 : Am.Known := ⟨41, (.cons (.str ⟨5, 138300961568⟩) .nil), (.slice 64 0 1 1 false), [.cells 21 (.cons (.int .i32 (.ofNat 931)) .nil)]⟩
theorem k120Ok : Am.OneOk Tryz.prog tabsB k120 :=
  Am.one_of_run (orc := orcC) (N := 999) (R := [66]) mixed progOk (extOk _) orcCOk (by kernel_rfl) (by kernel_rfl) (by kernel_rfl) (by kernel_rfl)
noncomputable def k122 : Am.Known := ⟨41, (.cons (.str ⟨4, 540238643⟩) .nil), (.slice 64 0 1 1 false), [.cells 21 (.cons (.int .i32 (.ofNat 963)) .nil)]⟩
theorem k122Ok : Am.OneOk Tryz.prog tabsB k122 :=
  Am.one_of_run (orc := orcC) (N := 999) (R := [66]) mixed progOk (extOk _) orcCOk (by kernel_rfl) (by kernel_rfl) (by kernel_rfl) (by kernel_rfl)
noncomputable def k124 : Am.Known := ⟨41, (.cons (.str ⟨4, 892876576⟩) .nil), (.slice 64 0 1 1 false), [.cells 21 (.cons (.int .i32 (.ofNat 1415)) .nil)]⟩
theorem k124Ok : Am.OneOk Tryz.prog tabsB k124 :=
  Am.one_of_run (orc := orcC) (N := 999) (R := [66]) mixed progOk (extOk _) orcCOk (by kernel_rfl) (by kernel_rfl) (by kernel_rfl) (by kernel_rfl)
noncomputable def k125 : Am.Known := ⟨41, (.cons (.str ⟨5, 138331830048⟩) .nil), (.slice 64 0 1 1 false), [.cells 21 (.cons (.int .i32 (.ofNat 1415)) .nil)]⟩
theorem k125Ok : Am.OneOk Tryz.prog tabsB k125 :=
  Am.one_of_run (orc := orcC) (N := 999) (R := [66]) mixed progOk (extOk _) orcCOk (by kernel_rfl) (by kernel_rfl) (by kernel_rfl) (by kernel_rfl)
noncomputable def k128 : Am.Known := ⟨41, (.cons (.str ⟨9, 594129276478975980064⟩) .nil), (.slice 64 0 2 1 false), [.cells 21 (.cons (.int .i32 (.ofNat 1333)) (.cons (.int .i32 (.ofNat 1362)) .nil))]⟩
theorem k128Ok : Am.OneOk Tryz.prog tabsB k128 :=
  Am.one_of_run (orc := orcC) (N := 999) (R := [68]) mixed progOk (extOk _) orcCOk (by kernel_rfl) (by kernel_rfl) (by kernel_rfl) (by kernel_rfl)
noncomputable def k130 : Am.Known := ⟨41, (.cons (.str ⟨9, 594129276478976176672⟩) .nil), (.slice 64 0 2 1 false), [.cells 21 (.cons (.int .i32 (.ofNat 1333)) (.cons (.int .i32 (.ofNat 1410)) .nil))]⟩
theorem k130Ok : Am.OneOk Tryz.prog tabsB k130 :=
  Am.one_of_run (orc := orcC) (N := 999) (R := [68]) mixed progOk (extOk _) orcCOk (by kernel_rfl) (by kernel_rfl) (by kernel_rfl) (by kernel_rfl)
noncomputable def k132 : Am.Known := ⟨41, (.cons (.str ⟨8, 2320820784780884018⟩) .nil), (.slice 64 0 2 1 false), [.cells 21 (.cons (.int .i32 (.ofNat 1381)) (.cons (.int .i32 (.ofNat 1410)) .nil))]⟩
theorem k132Ok : Am.OneOk Tryz.prog tabsB k132 :=
  Am.one_of_run (orc := orcC) (N := 999) (R := [68]) mixed progOk (extOk _) orcCOk (by kernel_rfl) (by kernel_rfl) (by kernel_rfl) (by kernel_rfl)
noncomputable def k134 : Am.Known := ⟨41, (.cons (.str ⟨5, 212151657760⟩) .nil), (.slice 64 0 1 1 false), [.cells 21 (.cons (.int .i32 (.ofNat 7838)) .nil)]⟩
theorem k134Ok : Am.OneOk Tryz.prog tabsB k134 :=
  Am.one_of_run (orc := orcC) (N := 999) (R := [66]) mixed progOk (extOk _) orcCOk (by kernel_rfl) (by kernel_rfl) (by kernel_rfl) (by kernel_rfl)
noncomputable def k135 : Am.Known := ⟨41, (.cons (.str ⟨6, 35396523746592⟩) .nil), (.slice 64 0 1 1 false), [.cells 21 (.cons (.int .i32 (.ofNat 7838)) .nil)]⟩
theorem k135Ok : Am.OneOk Tryz.prog tabsB k135 :=
  Am.one_of_run (orc := orcC) (N := 999) (R := [66]) mixed progOk (extOk _) orcCOk (by kernel_rfl) (by kernel_rfl) (by kernel_rfl) (by kernel_rfl)
noncomputable def k137 : Am.Known := ⟨41, (.cons (.str ⟨5, 439733989408⟩) .nil), (.slice 64 0 1 1 false), [.cells 21 (.cons (.int .i32 (.ofNat 64256)) .nil)]⟩
theorem k137Ok : Am.OneOk Tryz.prog tabsB k137 :=
  Am.one_of_run (orc := orcC) (N := 999) (R := [66]) mixed progOk (extOk _) orcCOk (by kernel_rfl) (by kernel_rfl) (by kernel_rfl) (by kernel_rfl)
noncomputable def k138 : Am.Known := ⟨41, (.cons (.str ⟨6, 35624106078240⟩) .nil), (.slice 64 0 1 1 false), [.cells 21 (.cons (.int .i32 (.ofNat 64256)) .nil)]⟩
theorem k138Ok : Am.OneOk Tryz.prog tabsB k138 :=
  Am.one_of_run (orc := orcC) (N := 999) (R := [66]) mixed progOk (extOk _) orcCOk (by kernel_rfl) (by kernel_rfl) (by kernel_rfl) (by kernel_rfl)
noncomputable def k140 : Am.Known := ⟨41, (.cons (.str ⟨7, 9064606327911968⟩) .nil), (.slice 64 0 2 1 false), [.cells 21 (.cons (.int .i32 (.ofNat 70)) (.cons (.int .i32 (.ofNat 70)) .nil))]⟩
theorem k140Ok : Am.OneOk Tryz.prog tabsB k140 :=
  Am.one_of_run (orc := orcC) (N := 999) (R := [68]) mixed progOk (extOk _) orcCOk (by kernel_rfl) (by kernel_rfl) (by kernel_rfl) (by kernel_rfl)
noncomputable def k142 : Am.Known := ⟨41, (.cons (.str ⟨7, 9064606328043040⟩) .nil), (.slice 64 0 2 1 false), [.cells 21 (.cons (.int .i32 (.ofNat 70)) (.cons (.int .i32 (.ofNat 102)) .nil))]⟩
theorem k142Ok : Am.OneOk Tryz.prog tabsB k142 :=
  Am.one_of_run (orc := orcC) (N := 999) (R := [68]) mixed progOk (extOk _) orcCOk (by kernel_rfl) (by kernel_rfl) (by kernel_rfl) (by kernel_rfl)
noncomputable def k143 : Am.Known := ⟨41, (.cons (.str ⟨6, 35417208403510⟩) .nil), (.slice 64 0 2 1 false), [.cells 21 (.cons (.int .i32 (.ofNat 102)) (.cons (.int .i32 (.ofNat 102)) .nil))]⟩
theorem k143Ok : Am.OneOk Tryz.prog tabsB k143 :=
  Am.one_of_run (orc := orcC) (N := 999) (R := [68]) mixed progOk (extOk _) orcCOk (by kernel_rfl) (by kernel_rfl) (by kernel_rfl) (by kernel_rfl)
noncomputable def k145 : Am.Known := ⟨41, (.cons (.str ⟨5, 439733989664⟩) .nil), (.slice 64 0 1 1 false), [.cells 21 (.cons (.int .i32 (.ofNat 64257)) .nil)]⟩
theorem k145Ok : Am.OneOk Tryz.prog tabsB k145 :=
  Am.one_of_run (orc := orcC) (N := 999) (R := [66]) mixed progOk (extOk _) orcCOk (by kernel_rfl) (by kernel_rfl) (by kernel_rfl) (by kernel_rfl)
noncomputable def k146 : Am.Known := ⟨41, (.cons (.str ⟨6, 35624106078496⟩) .nil), (.slice 64 0 1 1 false), [.cells 21 (.cons (.int .i32 (.ofNat 64257)) .nil)]⟩
theorem k146Ok : Am.OneOk Tryz.prog tabsB k146 :=
  Am.one_of_run (orc := orcC) (N := 999) (R := [66]) mixed progOk (extOk _) orcCOk (by kernel_rfl) (by kernel_rfl) (by kernel_rfl) (by kernel_rfl)
noncomputable def k147 : Am.Known := ⟨41, (.cons (.str ⟨7, 9064606327912736⟩) .nil), (.slice 64 0 2 1 false), [.cells 21 (.cons (.int .i32 (.ofNat 70)) (.cons (.int .i32 (.ofNat 73)) .nil))]⟩
theorem k147Ok : Am.OneOk Tryz.prog tabsB k147 :=
  Am.one_of_run (orc := orcC) (N := 999) (R := [68]) mixed progOk (extOk _) orcCOk (by kernel_rfl) (by kernel_rfl) (by kernel_rfl) (by kernel_rfl)
noncomputable def k148 : Am.Known := ⟨41, (.cons (.str ⟨7, 9064606328043808⟩) .nil), (.slice 64 0 2 1 false), [.cells 21 (.cons (.int .i32 (.ofNat 70)) (.cons (.int .i32 (.ofNat 105)) .nil))]⟩
theorem k148Ok : Am.OneOk Tryz.prog tabsB k148 :=
  Am.one_of_run (orc := orcC) (N := 999) (R := [68]) mixed progOk (extOk _) orcCOk (by kernel_rfl) (by kernel_rfl) (by kernel_rfl) (by kernel_rfl)
noncomputable def k149 : Am.Known := ⟨41, (.cons (.str ⟨6, 35417208403513⟩) .nil), (.slice 64 0 2 1 false), [.cells 21 (.cons (.int .i32 (.ofNat 102)) (.cons (.int .i32 (.ofNat 105)) .nil))]⟩
theorem k149Ok : Am.OneOk Tryz.prog tabsB k149 :=
  Am.one_of_run (orc := orcC) (N := 999) (R := [68]) mixed progOk (extOk _) orcCOk (by kernel_rfl) (by kernel_rfl) (by kernel_rfl) (by kernel_rfl)
noncomputable def k151 : Am.Known := ⟨41, (.cons (.str ⟨5, 439733989920⟩) .nil), (.slice 64 0 1 1 false), [.cells 21 (.cons (.int .i32 (.ofNat 64258)) .nil)]⟩
theorem k151Ok : Am.OneOk Tryz.prog tabsB k151 :=
  Am.one_of_run (orc := orcC) (N := 999) (R := [66]) mixed progOk (extOk _) orcCOk (by kernel_rfl) (by kernel_rfl) (by kernel_rfl) (by kernel_rfl)
noncomputable def k152 : Am.Known := ⟨41, (.cons (.str ⟨6, 35624106078752⟩) .nil), (.slice 64 0 1 1 false), [.cells 21 (.cons (.int .i32 (.ofNat 64258)) .nil)]⟩
theorem k152Ok : Am.OneOk Tryz.prog tabsB k152 :=
  Am.one_of_run (orc := orcC) (N := 999) (R := [66]) mixed progOk (extOk _) orcCOk (by kernel_rfl) (by kernel_rfl) (by kernel_rfl) (by kernel_rfl)
noncomputable def k154 : Am.Known := ⟨41, (.cons (.str ⟨7, 9064606327923488⟩) .nil), (.slice 64 0 2 1 false), [.cells 21 (.cons (.int .i32 (.ofNat 70)) (.cons (.int .i32 (.ofNat 76)) .nil))]⟩
theorem k154Ok : Am.OneOk Tryz.prog tabsB k154 :=
  Am.one_of_run (orc := orcC) (N := 999) (R := [68]) mixed progOk (extOk _) orcCOk (by kernel_rfl) (by kernel_rfl) (by kernel_rfl) (by kernel_rfl)
noncomputable def k156 : Am.Known := ⟨41, (.cons (.str ⟨7, 9064606328054560⟩) .nil), (.slice 64 0 2 1 false), [.cells 21 (.cons (.int .i32 (.ofNat 70)) (.cons (.int .i32 (.ofNat 108)) .nil))]⟩
theorem k156Ok : Am.OneOk Tryz.prog tabsB k156 :=
  Am.one_of_run (orc := orcC) (N := 999) (R := [68]) mixed progOk (extOk _) orcCOk (by kernel_rfl) (by kernel_rfl) (by kernel_rfl) (by kernel_rfl)
noncomputable def k157 : Am.Known := ⟨41, (.cons (.str ⟨6, 35417208403555⟩) .nil), (.slice 64 0 2 1 false), [.cells 21 (.cons (.int .i32 (.ofNat 102)) (.cons (.int .i32 (.ofNat 108)) .nil))]⟩
theorem k157Ok : Am.OneOk Tryz.prog tabsB k157 :=
  Am.one_of_run (orc := orcC) (N := 999) (R := [68]) mixed progOk (extOk _) orcCOk (by kernel_rfl) (by kernel_rfl) (by kernel_rfl) (by kernel_rfl)
noncomputable def k159 : Am.Known := ⟨41, (.cons (.str ⟨5, 439733990176⟩) .nil), (.slice 64 0 1 1 false), [.cells 21 (.cons (.int .i32 (.ofNat 64259)) .nil)]⟩
theorem k159Ok : Am.OneOk Tryz.prog tabsB k159 :=
  Am.one_of_run (orc := orcC) (N := 999) (R := [66]) mixed progOk (extOk _) orcCOk (by kernel_rfl) (by kernel_rfl) (by kernel_rfl) (by kernel_rfl)
noncomputable def k160 : Am.Known := ⟨41, (.cons (.str ⟨6, 35624106079008⟩) .nil), (.slice 64 0 1 1 false), [.cells 21 (.cons (.int .i32 (.ofNat 64259)) .nil)]⟩
theorem k160Ok : Am.OneOk Tryz.prog tabsB k160 :=
  Am.one_of_run (orc := orcC) (N := 999) (R := [66]) mixed progOk (extOk _) orcCOk (by kernel_rfl) (by kernel_rfl) (by kernel_rfl) (by kernel_rfl)
noncomputable def k161 : Am.Known := ⟨41, (.cons (.str ⟨10, 152078858318345919543584⟩) .nil), (.slice 64 0 3 1 false), [.cells 21 (.cons (.int .i32 (.ofNat 70)) (.cons (.int .i32 (.ofNat 70)) (.cons (.int .i32 (.ofNat 73)) .nil)))]⟩
theorem k161Ok : Am.OneOk Tryz.prog tabsB k161 :=
  Am.one_of_run (orc := orcC) (N := 999) (R := [70]) mixed progOk (extOk _) orcCOk (by kernel_rfl) (by kernel_rfl) (by kernel_rfl) (by kernel_rfl)
noncomputable def k162 : Am.Known := ⟨41, (.cons (.str ⟨10, 152078858320544942930208⟩) .nil), (.slice 64 0 3 1 false), [.cells 21 (.cons (.int .i32 (.ofNat 70)) (.cons (.int .i32 (.ofNat 102)) (.cons (.int .i32 (.ofNat 105)) .nil)))]⟩
theorem k162Ok : Am.OneOk Tryz.prog tabsB k162 :=
  Am.one_of_run (orc := orcC) (N := 999) (R := [70]) mixed progOk (extOk _) orcCOk (by kernel_rfl) (by kernel_rfl) (by kernel_rfl) (by kernel_rfl)
noncomputable def k163 : Am.Known := ⟨41, (.cons (.str ⟨9, 594202155502704539193⟩) .nil), (.slice 64 0 3 1 false), [.cells 21 (.cons (.int .i32 (.ofNat 102)) (.cons (.int .i32 (.ofNat 102)) (.cons (.int .i32 (.ofNat 105)) .nil)))]⟩
theorem k163Ok : Am.OneOk Tryz.prog tabsB k163 :=
  Am.one_of_run (orc := orcC) (N := 999) (R := [70]) mixed progOk (extOk _) orcCOk (by kernel_rfl) (by kernel_rfl) (by kernel_rfl) (by kernel_rfl)
end Go.Proofs.YtfmnninijakknaaGreatDoor.searchPieces
