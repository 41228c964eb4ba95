/- CursorNames's closed run: calls whose results are known. -/
import Derived.Test.YtofmmjfbmiinoaaGreatDoorBase
namespace Go.Proofs.YtofmmjfbmiinoaaGreatDoor.cursorNames
noncomputable def k0 : Am.Known := ⟨81, (.cons (.str ⟨11, 102962645342072630576956242⟩) (.cons (.int .u8 (.ofNat 35)) .nil)), (.int .i64 (.negSucc 0)), []⟩
theorem k0Ok : Am.OneOk Tryz.prog [] k0 :=
  Am.one_of_run (orc := orc0) (N := 999) (R := []) mixed progOk (extOk _) orc0Ok (by kernel_rfl) (by kernel_rfl) (by kernel_rfl) (by kernel_rfl)
noncomputable def k1 : Am.Known := ⟨81, (.cons (.str ⟨11, 102962645342072630576956242⟩) (.cons (.int .u8 (.ofNat 59)) .nil)), (.int .i64 (.ofNat 7)), []⟩
theorem k1Ok : Am.OneOk Tryz.prog [] k1 :=
  Am.one_of_run (orc := orc0) (N := 999) (R := []) mixed progOk (extOk _) orc0Ok (by kernel_rfl) (by kernel_rfl) (by kernel_rfl) (by kernel_rfl)
noncomputable def k2 : Am.Known := ⟨84, (.cons (.str ⟨7, 23972858987299872⟩) .nil), (.tup (.cons (.slice 64 0 1 2 false) (.cons (.int .i64 (.ofNat 0)) (.cons (.int .i64 (.ofNat 0)) .nil)))), [.cells 132 (.cons (.int .i32 (.ofNat 13)) (.cons (.int .i32 (.ofNat 13)) .nil))]⟩
theorem k2Ok : Am.OneOk Tryz.prog [] k2 :=
  Am.one_of_run (orc := orc0) (N := 999) (R := [77]) mixed progOk (extOk _) orc0Ok (by kernel_rfl) (by kernel_rfl) (by kernel_rfl) (by kernel_rfl)
noncomputable def k3 : Am.Known := ⟨81, (.cons (.str ⟨11, 102962645342069332042075206⟩) (.cons (.int .u8 (.ofNat 35)) .nil)), (.int .i64 (.negSucc 0)), []⟩
theorem k3Ok : Am.OneOk Tryz.prog [] k3 :=
  Am.one_of_run (orc := orc0) (N := 999) (R := []) mixed progOk (extOk _) orc0Ok (by kernel_rfl) (by kernel_rfl) (by kernel_rfl) (by kernel_rfl)
noncomputable def k4 : Am.Known := ⟨81, (.cons (.str ⟨11, 102962645342069332042075206⟩) (.cons (.int .u8 (.ofNat 59)) .nil)), (.int .i64 (.ofNat 7)), []⟩
theorem k4Ok : Am.OneOk Tryz.prog [] k4 :=
  Am.one_of_run (orc := orc0) (N := 999) (R := []) mixed progOk (extOk _) orc0Ok (by kernel_rfl) (by kernel_rfl) (by kernel_rfl) (by kernel_rfl)
noncomputable def k5 : Am.Known := ⟨84, (.cons (.str ⟨7, 23972858987299104⟩) .nil), (.tup (.cons (.slice 64 0 1 2 false) (.cons (.int .i64 (.ofNat 0)) (.cons (.int .i64 (.ofNat 0)) .nil)))), [.cells 132 (.cons (.int .i32 (.ofNat 10)) (.cons (.int .i32 (.ofNat 10)) .nil))]⟩
theorem k5Ok : Am.OneOk Tryz.prog [] k5 :=
  Am.one_of_run (orc := orc0) (N := 999) (R := [77]) mixed progOk (extOk _) orc0Ok (by kernel_rfl) (by kernel_rfl) (by kernel_rfl) (by kernel_rfl)
noncomputable def k6 : Am.Known := ⟨81, (.cons (.str ⟨100, 2218383389827535999682072645889753502715423754961004483166999509250562126192633762705760822490343369359523707118587249356008446815588166199628637170791131840540284790014827761410138708866286031978678543604298815074230553509586412489038524268⟩) (.cons (.int .u8 (.ofNat 35)) .nil)), (.int .i64 (.negSucc 0)), []⟩
theorem k6Ok : Am.OneOk Tryz.prog [] k6 :=
  Am.one_of_run (orc := orc0) (N := 999) (R := []) mixed progOk (extOk _) orc0Ok (by kernel_rfl) (by kernel_rfl) (by kernel_rfl) (by kernel_rfl)
noncomputable def k7 : Am.Known := ⟨81, (.cons (.str ⟨100, 2218383389827535999682072645889753502715423754961004483166999509250562126192633762705760822490343369359523707118587249356008446815588166199628637170791131840540284790014827761410138708866286031978678543604298815074230553509586412489038524268⟩) (.cons (.int .u8 (.ofNat 59)) .nil)), (.int .i64 (.ofNat 91)), []⟩
theorem k7Ok : Am.OneOk Tryz.prog [] k7 :=
  Am.one_of_run (orc := orc0) (N := 999) (R := []) mixed progOk (extOk _) orc0Ok (by kernel_rfl) (by kernel_rfl) (by kernel_rfl) (by kernel_rfl)
noncomputable def k8 : Am.Known := ⟨84, (.cons (.str ⟨91, 469760955206400821943993528307284645140972812491659484381873977297474422641988878546799363655160011957918869301844451576508380443265989536029770274098269863822124765069717698110307370455107038306097130752513103649719840⟩) .nil), (.tup (.cons (.slice 64 0 8 2 false) (.cons (.int .i64 (.ofNat 0)) (.cons (.int .i64 (.ofNat 0)) .nil)))), [.cells 132 (.cons (.int .i32 (.ofNat 0)) (.cons (.int .i32 (.ofNat 9)) (.cons (.int .i32 (.ofNat 11)) (.cons (.int .i32 (.ofNat 12)) (.cons (.int .i32 (.ofNat 14)) (.cons (.int .i32 (.ofNat 31)) (.cons (.int .i32 (.ofNat 127)) (.cons (.int .i32 (.ofNat 159)) (.cons (.int .i32 (.ofNat 173)) (.cons (.int .i32 (.ofNat 173)) (.cons (.int .i32 (.ofNat 8203)) (.cons (.int .i32 (.ofNat 8203)) (.cons (.int .i32 (.ofNat 8232)) (.cons (.int .i32 (.ofNat 8233)) (.cons (.int .i32 (.ofNat 65279)) (.cons (.int .i32 (.ofNat 65279)) .nil))))))))))))))))]⟩
theorem k8Ok : Am.OneOk Tryz.prog [] k8 :=
  Am.one_of_run (orc := orc0) (N := 999) (R := [166]) mixed progOk (extOk _) orc0Ok (by kernel_rfl) (by kernel_rfl) (by kernel_rfl) (by kernel_rfl)
noncomputable def k9 : Am.Known := ⟨81, (.cons (.str ⟨173, 140460455828292047064114065889635674980927719953707902839235398779582239131983230566235076690419991610576496175327210257911824660433377352989201720536096093583825597717627264814574385041887878811032054317214109010827443510864816183881870269510436020537031983994900186210581690089765075388829001525549120998343012266261460973450087498736612376586148428888485490437327969571823250200948682770573900705312509156840009316⟩) (.cons (.int .u8 (.ofNat 35)) .nil)), (.int .i64 (.negSucc 0)), []⟩
theorem k9Ok : Am.OneOk Tryz.prog [] k9 :=
  Am.one_of_run (orc := orc0) (N := 999) (R := []) mixed progOk (extOk _) orc0Ok (by kernel_rfl) (by kernel_rfl) (by kernel_rfl) (by kernel_rfl)
noncomputable def k10 : Am.Known := ⟨81, (.cons (.str ⟨173, 140460455828292047064114065889635674980927719953707902839235398779582239131983230566235076690419991610576496175327210257911824660433377352989201720536096093583825597717627264814574385041887878811032054317214109010827443510864816183881870269510436020537031983994900186210581690089765075388829001525549120998343012266261460973450087498736612376586148428888485490437327969571823250200948682770573900705312509156840009316⟩) (.cons (.int .u8 (.ofNat 59)) .nil)), (.int .i64 (.ofNat 165)), []⟩
theorem k10Ok : Am.OneOk Tryz.prog [] k10 :=
  Am.one_of_run (orc := orc0) (N := 999) (R := []) mixed progOk (extOk _) orc0Ok (by kernel_rfl) (by kernel_rfl) (by kernel_rfl) (by kernel_rfl)
noncomputable def k11 : Am.Known := ⟨84, (.cons (.str ⟨165, 7614376567866923529229122439862383833673166539784564414230550961664488762843792857273269696376975682450472501584414140445967526524521655288875027501384681404864289992535673945199969797207808033878611605702291427793314288118227242928134298198194217305628544826824317287365450164687075497971420301584703131666761905875282389171412937455550475008276310744737647815139241785075332623298424606813537824⟩) .nil), (.tup (.cons (.slice 64 0 13 2 false) (.cons (.int .i64 (.ofNat 0)) (.cons (.int .i64 (.ofNat 0)) .nil)))), [.cells 132 (.cons (.int .i32 (.ofNat 768)) (.cons (.int .i32 (.ofNat 879)) (.cons (.int .i32 (.ofNat 1155)) (.cons (.int .i32 (.ofNat 1161)) (.cons (.int .i32 (.ofNat 1425)) (.cons (.int .i32 (.ofNat 1469)) (.cons (.int .i32 (.ofNat 1611)) (.cons (.int .i32 (.ofNat 1631)) (.cons (.int .i32 (.ofNat 2364)) (.cons (.int .i32 (.ofNat 2364)) (.cons (.int .i32 (.ofNat 2381)) (.cons (.int .i32 (.ofNat 2381)) (.cons (.int .i32 (.ofNat 3636)) (.cons (.int .i32 (.ofNat 3642)) (.cons (.int .i32 (.ofNat 8204)) (.cons (.int .i32 (.ofNat 8204)) (.cons (.int .i32 (.ofNat 8400)) (.cons (.int .i32 (.ofNat 8432)) (.cons (.int .i32 (.ofNat 12441)) (.cons (.int .i32 (.ofNat 12442)) (.cons (.int .i32 (.ofNat 65024)) (.cons (.int .i32 (.ofNat 65039)) (.cons (.int .i32 (.ofNat 127995)) (.cons (.int .i32 (.ofNat 127999)) (.cons (.int .i32 (.ofNat 917536)) (.cons (.int .i32 (.ofNat 917631)) .nil))))))))))))))))))))))))))]⟩
theorem k11Ok : Am.OneOk Tryz.prog [] k11 :=
  Am.one_of_run (orc := orc0) (N := 999) (R := [238]) mixed progOk (extOk _) orc0Ok (by kernel_rfl) (by kernel_rfl) (by kernel_rfl) (by kernel_rfl)
noncomputable def k12 : Am.Known := ⟨81, (.cons (.str ⟨12, 26358446652303559166992734026⟩) (.cons (.int .u8 (.ofNat 35)) .nil)), (.int .i64 (.negSucc 0)), []⟩
theorem k12Ok : Am.OneOk Tryz.prog [] k12 :=
  Am.one_of_run (orc := orc0) (N := 999) (R := []) mixed progOk (extOk _) orc0Ok (by kernel_rfl) (by kernel_rfl) (by kernel_rfl) (by kernel_rfl)
noncomputable def k13 : Am.Known := ⟨81, (.cons (.str ⟨12, 26358446652303559166992734026⟩) (.cons (.int .u8 (.ofNat 59)) .nil)), (.int .i64 (.ofNat 7)), []⟩
theorem k13Ok : Am.OneOk Tryz.prog [] k13 :=
  Am.one_of_run (orc := orc0) (N := 999) (R := []) mixed progOk (extOk _) orc0Ok (by kernel_rfl) (by kernel_rfl) (by kernel_rfl) (by kernel_rfl)
noncomputable def k14 : Am.Known := ⟨84, (.cons (.str ⟨7, 23972867577234464⟩) .nil), (.tup (.cons (.slice 64 0 1 2 false) (.cons (.int .i64 (.ofNat 0)) (.cons (.int .i64 (.ofNat 0)) .nil)))), [.cells 132 (.cons (.int .i32 (.ofNat 8205)) (.cons (.int .i32 (.ofNat 8205)) .nil))]⟩
theorem k14Ok : Am.OneOk Tryz.prog [] k14 :=
  Am.one_of_run (orc := orc0) (N := 999) (R := [77]) mixed progOk (extOk _) orc0Ok (by kernel_rfl) (by kernel_rfl) (by kernel_rfl) (by kernel_rfl)
noncomputable def k15 : Am.Known := ⟨81, (.cons (.str ⟨48, 13108663381336717200139168278506299974797773952639873191124590358721702587825933956676157858880785953901713163383403⟩) (.cons (.int .u8 (.ofNat 35)) .nil)), (.int .i64 (.negSucc 0)), []⟩
theorem k15Ok : Am.OneOk Tryz.prog [] k15 :=
  Am.one_of_run (orc := orc0) (N := 999) (R := []) mixed progOk (extOk _) orc0Ok (by kernel_rfl) (by kernel_rfl) (by kernel_rfl) (by kernel_rfl)
noncomputable def k16 : Am.Known := ⟨81, (.cons (.str ⟨48, 13108663381336717200139168278506299974797773952639873191124590358721702587825933956676157858880785953901713163383403⟩) (.cons (.int .u8 (.ofNat 59)) .nil)), (.int .i64 (.ofNat 42)), []⟩
theorem k16Ok : Am.OneOk Tryz.prog [] k16 :=
  Am.one_of_run (orc := orc0) (N := 999) (R := []) mixed progOk (extOk _) orc0Ok (by kernel_rfl) (by kernel_rfl) (by kernel_rfl) (by kernel_rfl)
noncomputable def k17 : Am.Known := ⟨84, (.cons (.str ⟨42, 46571327705666182339922330436743536007774132033318441838519384954230782326426428442815669437780407072⟩) .nil), (.tup (.cons (.slice 64 0 4 2 false) (.cons (.int .i64 (.ofNat 0)) (.cons (.int .i64 (.ofNat 0)) .nil)))), [.cells 132 (.cons (.int .i32 (.ofNat 2307)) (.cons (.int .i32 (.ofNat 2307)) (.cons (.int .i32 (.ofNat 2366)) (.cons (.int .i32 (.ofNat 2368)) (.cons (.int .i32 (.ofNat 2377)) (.cons (.int .i32 (.ofNat 2380)) (.cons (.int .i32 (.ofNat 3635)) (.cons (.int .i32 (.ofNat 3635)) .nil))))))))]⟩
theorem k17Ok : Am.OneOk Tryz.prog [] k17 :=
  Am.one_of_run (orc := orc0) (N := 999) (R := [115]) mixed progOk (extOk _) orc0Ok (by kernel_rfl) (by kernel_rfl) (by kernel_rfl) (by kernel_rfl)
noncomputable def k18 : Am.Known := ⟨81, (.cons (.str ⟨45, 781337222684283314030409274232883888244721944197149379049606985155727226401363477861785488944471731561918052⟩) (.cons (.int .u8 (.ofNat 35)) .nil)), (.int .i64 (.negSucc 0)), []⟩
theorem k18Ok : Am.OneOk Tryz.prog [] k18 :=
  Am.one_of_run (orc := orc0) (N := 999) (R := []) mixed progOk (extOk _) orc0Ok (by kernel_rfl) (by kernel_rfl) (by kernel_rfl) (by kernel_rfl)
noncomputable def k19 : Am.Known := ⟨81, (.cons (.str ⟨45, 781337222684283314030409274232883888244721944197149379049606985155727226401363477861785488944471731561918052⟩) (.cons (.int .u8 (.ofNat 59)) .nil)), (.int .i64 (.ofNat 36)), []⟩
theorem k19Ok : Am.OneOk Tryz.prog [] k19 :=
  Am.one_of_run (orc := orc0) (N := 999) (R := []) mixed progOk (extOk _) orc0Ok (by kernel_rfl) (by kernel_rfl) (by kernel_rfl) (by kernel_rfl)
noncomputable def k20 : Am.Known := ⟨84, (.cons (.str ⟨36, 165454592632439516680354666206865962171671462575389653492108489735404476004368233153568⟩) .nil), (.tup (.cons (.slice 64 0 4 2 false) (.cons (.int .i64 (.ofNat 0)) (.cons (.int .i64 (.ofNat 0)) .nil)))), [.cells 132 (.cons (.int .i32 (.ofNat 1536)) (.cons (.int .i32 (.ofNat 1541)) (.cons (.int .i32 (.ofNat 1757)) (.cons (.int .i32 (.ofNat 1757)) (.cons (.int .i32 (.ofNat 1807)) (.cons (.int .i32 (.ofNat 1807)) (.cons (.int .i32 (.ofNat 69821)) (.cons (.int .i32 (.ofNat 69821)) .nil))))))))]⟩
theorem k20Ok : Am.OneOk Tryz.prog [] k20 :=
  Am.one_of_run (orc := orc0) (N := 999) (R := [114]) mixed progOk (extOk _) orc0Ok (by kernel_rfl) (by kernel_rfl) (by kernel_rfl) (by kernel_rfl)
noncomputable def k21 : Am.Known := ⟨81, (.cons (.str ⟨17, 28981413412300521447423255241175934378060⟩) (.cons (.int .u8 (.ofNat 35)) .nil)), (.int .i64 (.negSucc 0)), []⟩
theorem k21Ok : Am.OneOk Tryz.prog [] k21 :=
  Am.one_of_run (orc := orc0) (N := 999) (R := []) mixed progOk (extOk _) orc0Ok (by kernel_rfl) (by kernel_rfl) (by kernel_rfl) (by kernel_rfl)
noncomputable def k22 : Am.Known := ⟨81, (.cons (.str ⟨17, 28981413412300521447423255241175934378060⟩) (.cons (.int .u8 (.ofNat 59)) .nil)), (.int .i64 (.ofNat 14)), []⟩
theorem k22Ok : Am.OneOk Tryz.prog [] k22 :=
  Am.one_of_run (orc := orc0) (N := 999) (R := []) mixed progOk (extOk _) orc0Ok (by kernel_rfl) (by kernel_rfl) (by kernel_rfl) (by kernel_rfl)
noncomputable def k23 : Am.Known := ⟨84, (.cons (.str ⟨14, 1727426851528914061035111858914848⟩) .nil), (.tup (.cons (.slice 64 0 1 2 false) (.cons (.int .i64 (.ofNat 0)) (.cons (.int .i64 (.ofNat 0)) .nil)))), [.cells 132 (.cons (.int .i32 (.ofNat 4352)) (.cons (.int .i32 (.ofNat 4447)) .nil))]⟩
theorem k23Ok : Am.OneOk Tryz.prog [] k23 :=
  Am.one_of_run (orc := orc0) (N := 999) (R := [78]) mixed progOk (extOk _) orc0Ok (by kernel_rfl) (by kernel_rfl) (by kernel_rfl) (by kernel_rfl)
noncomputable def k24 : Am.Known := ⟨81, (.cons (.str ⟨17, 28981413412775890422508841279866913103958⟩) (.cons (.int .u8 (.ofNat 35)) .nil)), (.int .i64 (.negSucc 0)), []⟩
theorem k24Ok : Am.OneOk Tryz.prog [] k24 :=
  Am.one_of_run (orc := orc0) (N := 999) (R := []) mixed progOk (extOk _) orc0Ok (by kernel_rfl) (by kernel_rfl) (by kernel_rfl) (by kernel_rfl)
noncomputable def k25 : Am.Known := ⟨81, (.cons (.str ⟨17, 28981413412775890422508841279866913103958⟩) (.cons (.int .u8 (.ofNat 59)) .nil)), (.int .i64 (.ofNat 14)), []⟩
theorem k25Ok : Am.OneOk Tryz.prog [] k25 :=
  Am.one_of_run (orc := orc0) (N := 999) (R := []) mixed progOk (extOk _) orc0Ok (by kernel_rfl) (by kernel_rfl) (by kernel_rfl) (by kernel_rfl)
noncomputable def k26 : Am.Known := ⟨84, (.cons (.str ⟨14, 1727426851557248259932329730979616⟩) .nil), (.tup (.cons (.slice 64 0 1 2 false) (.cons (.int .i64 (.ofNat 0)) (.cons (.int .i64 (.ofNat 0)) .nil)))), [.cells 132 (.cons (.int .i32 (.ofNat 4448)) (.cons (.int .i32 (.ofNat 4519)) .nil))]⟩
theorem k26Ok : Am.OneOk Tryz.prog [] k26 :=
  Am.one_of_run (orc := orc0) (N := 999) (R := [78]) mixed progOk (extOk _) orc0Ok (by kernel_rfl) (by kernel_rfl) (by kernel_rfl) (by kernel_rfl)
noncomputable def k27 : Am.Known := ⟨81, (.cons (.str ⟨17, 28981413413649876090244319759507677454420⟩) (.cons (.int .u8 (.ofNat 35)) .nil)), (.int .i64 (.negSucc 0)), []⟩
theorem k27Ok : Am.OneOk Tryz.prog [] k27 :=
  Am.one_of_run (orc := orc0) (N := 999) (R := []) mixed progOk (extOk _) orc0Ok (by kernel_rfl) (by kernel_rfl) (by kernel_rfl) (by kernel_rfl)
noncomputable def k28 : Am.Known := ⟨81, (.cons (.str ⟨17, 28981413413649876090244319759507677454420⟩) (.cons (.int .u8 (.ofNat 59)) .nil)), (.int .i64 (.ofNat 14)), []⟩
theorem k28Ok : Am.OneOk Tryz.prog [] k28 :=
  Am.one_of_run (orc := orc0) (N := 999) (R := []) mixed progOk (extOk _) orc0Ok (by kernel_rfl) (by kernel_rfl) (by kernel_rfl) (by kernel_rfl)
noncomputable def k29 : Am.Known := ⟨84, (.cons (.str ⟨14, 1727426851609341865196485505074720⟩) .nil), (.tup (.cons (.slice 64 0 1 2 false) (.cons (.int .i64 (.ofNat 0)) (.cons (.int .i64 (.ofNat 0)) .nil)))), [.cells 132 (.cons (.int .i32 (.ofNat 4520)) (.cons (.int .i32 (.ofNat 4607)) .nil))]⟩
theorem k29Ok : Am.OneOk Tryz.prog [] k29 :=
  Am.one_of_run (orc := orc0) (N := 999) (R := [78]) mixed progOk (extOk _) orc0Ok (by kernel_rfl) (by kernel_rfl) (by kernel_rfl) (by kernel_rfl)
noncomputable def k30 : Am.Known := ⟨81, (.cons (.str ⟨17, 28981496854133630870396750156416841097288⟩) (.cons (.int .u8 (.ofNat 35)) .nil)), (.int .i64 (.negSucc 0)), []⟩
theorem k30Ok : Am.OneOk Tryz.prog [] k30 :=
  Am.one_of_run (orc := orc0) (N := 999) (R := []) mixed progOk (extOk _) orc0Ok (by kernel_rfl) (by kernel_rfl) (by kernel_rfl) (by kernel_rfl)
noncomputable def k31 : Am.Known := ⟨81, (.cons (.str ⟨17, 28981496854133630870396750156416841097288⟩) (.cons (.int .u8 (.ofNat 59)) .nil)), (.int .i64 (.ofNat 14)), []⟩
theorem k31Ok : Am.OneOk Tryz.prog [] k31 :=
  Am.one_of_run (orc := orc0) (N := 999) (R := []) mixed progOk (extOk _) orc0Ok (by kernel_rfl) (by kernel_rfl) (by kernel_rfl) (by kernel_rfl)
noncomputable def k32 : Am.Known := ⟨84, (.cons (.str ⟨14, 1727431825049735955619618305946400⟩) .nil), (.tup (.cons (.slice 64 0 1 2 false) (.cons (.int .i64 (.ofNat 0)) (.cons (.int .i64 (.ofNat 0)) .nil)))), [.cells 132 (.cons (.int .i32 (.ofNat 44032)) (.cons (.int .i32 (.ofNat 55203)) .nil))]⟩
theorem k32Ok : Am.OneOk Tryz.prog [] k32 :=
  Am.one_of_run (orc := orc0) (N := 999) (R := [78]) mixed progOk (extOk _) orc0Ok (by kernel_rfl) (by kernel_rfl) (by kernel_rfl) (by kernel_rfl)
noncomputable def k33 : Am.Known := ⟨81, (.cons (.str ⟨187, 729312382048363867716027128988606504401672981289541077057678900647817079821021309423722899065903920076698862539711700232417329709247976156961511083949357372349871721032340816147194261755943622886105768417703721231561151701609150708220310831754073698141706031660180085780735991835883935093698862445859294786869902735541220340474173390221422570208834343699453588182257457684294521790841168703959461221434535885148985004571570749005499947984641789092724⟩) (.cons (.int .u8 (.ofNat 35)) .nil)), (.int .i64 (.negSucc 0)), []⟩
theorem k33Ok : Am.OneOk Tryz.prog [] k33 :=
  Am.one_of_run (orc := orc0) (N := 999) (R := []) mixed progOk (extOk _) orc0Ok (by kernel_rfl) (by kernel_rfl) (by kernel_rfl) (by kernel_rfl)
noncomputable def k34 : Am.Known := ⟨81, (.cons (.str ⟨187, 729312382048363867716027128988606504401672981289541077057678900647817079821021309423722899065903920076698862539711700232417329709247976156961511083949357372349871721032340816147194261755943622886105768417703721231561151701609150708220310831754073698141706031660180085780735991835883935093698862445859294786869902735541220340474173390221422570208834343699453588182257457684294521790841168703959461221434535885148985004571570749005499947984641789092724⟩) (.cons (.int .u8 (.ofNat 59)) .nil)), (.int .i64 (.ofNat 181)), []⟩
theorem k34Ok : Am.OneOk Tryz.prog [] k34 :=
  Am.one_of_run (orc := orc0) (N := 999) (R := []) mixed progOk (extOk _) orc0Ok (by kernel_rfl) (by kernel_rfl) (by kernel_rfl) (by kernel_rfl)
noncomputable def k35 : Am.Known := ⟨84, (.cons (.str ⟨181, 2591038075821799209975989445057843256853661917523158838099842074057537927775105790657487500062586321109488318866850776460414812551562051215233534705182298453784539024384304241789302600395016976925808792549701284825265019057415652199766181353460843077633434573883804168945971439924434545409677576962292614790576915366462246270182040284955684833110589493186117196125399636074940168096394077337974199868975716345960993452634009589294450208⟩) .nil), (.tup (.cons (.slice 64 0 17 2 false) (.cons (.int .i64 (.ofNat 0)) (.cons (.int .i64 (.ofNat 0)) .nil)))), [.cells 132 (.cons (.int .i32 (.ofNat 169)) (.cons (.int .i32 (.ofNat 169)) (.cons (.int .i32 (.ofNat 174)) (.cons (.int .i32 (.ofNat 174)) (.cons (.int .i32 (.ofNat 8252)) (.cons (.int .i32 (.ofNat 8252)) (.cons (.int .i32 (.ofNat 8265)) (.cons (.int .i32 (.ofNat 8265)) (.cons (.int .i32 (.ofNat 8482)) (.cons (.int .i32 (.ofNat 8482)) (.cons (.int .i32 (.ofNat 8592)) (.cons (.int .i32 (.ofNat 8703)) (.cons (.int .i32 (.ofNat 8960)) (.cons (.int .i32 (.ofNat 9215)) (.cons (.int .i32 (.ofNat 9632)) (.cons (.int .i32 (.ofNat 10175)) (.cons (.int .i32 (.ofNat 10548)) (.cons (.int .i32 (.ofNat 10549)) (.cons (.int .i32 (.ofNat 11013)) (.cons (.int .i32 (.ofNat 11093)) (.cons (.int .i32 (.ofNat 12336)) (.cons (.int .i32 (.ofNat 12336)) (.cons (.int .i32 (.ofNat 12349)) (.cons (.int .i32 (.ofNat 12349)) (.cons (.int .i32 (.ofNat 12951)) (.cons (.int .i32 (.ofNat 12951)) (.cons (.int .i32 (.ofNat 12953)) (.cons (.int .i32 (.ofNat 12953)) (.cons (.int .i32 (.ofNat 126976)) (.cons (.int .i32 (.ofNat 127231)) (.cons (.int .i32 (.ofNat 127744)) (.cons (.int .i32 (.ofNat 127994)) (.cons (.int .i32 (.ofNat 128000)) (.cons (.int .i32 (.ofNat 129791)) .nil))))))))))))))))))))))))))))))))))]⟩
theorem k35Ok : Am.OneOk Tryz.prog [] k35 :=
  Am.one_of_run (orc := orc0) (N := 999) (R := [284]) mixed progOk (extOk _) orc0Ok (by kernel_rfl) (by kernel_rfl) (by kernel_rfl) (by kernel_rfl)
noncomputable def k36 : Am.Known := ⟨81, (.cons (.str ⟨22, 31865401504617664098541602475372820131314828569239911⟩) (.cons (.int .u8 (.ofNat 35)) .nil)), (.int .i64 (.negSucc 0)), []⟩
theorem k36Ok : Am.OneOk Tryz.prog [] k36 :=
  Am.one_of_run (orc := orc0) (N := 999) (R := []) mixed progOk (extOk _) orc0Ok (by kernel_rfl) (by kernel_rfl) (by kernel_rfl) (by kernel_rfl)
noncomputable def k37 : Am.Known := ⟨81, (.cons (.str ⟨22, 31865401504617664098541602475372820131314828569239911⟩) (.cons (.int .u8 (.ofNat 59)) .nil)), (.int .i64 (.ofNat 16)), []⟩
theorem k37Ok : Am.OneOk Tryz.prog [] k37 :=
  Am.one_of_run (orc := orc0) (N := 999) (R := []) mixed progOk (extOk _) orc0Ok (by kernel_rfl) (by kernel_rfl) (by kernel_rfl) (by kernel_rfl)
end Go.Proofs.YtofmmjfbmiinoaaGreatDoor.cursorNames
