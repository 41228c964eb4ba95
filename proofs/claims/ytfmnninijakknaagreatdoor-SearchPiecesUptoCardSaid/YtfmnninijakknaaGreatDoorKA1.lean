/- SearchPieces's closed run: calls whose results are known. -/
import Derived.Test.YtfmnninijakknaaGreatDoorBase
namespace Go.Proofs.YtfmnninijakknaaGreatDoor.searchPieces
noncomputable def k175 : Am.Known := ⟨96, (.cons (.str ⟨165, 7614376567866923529229122439862383833673166539784564414230550961664488762843792857273269696376975682450472501584414140445967526524521655288875027501384681404864289992535673945199969797207808033878611605702291427793314288118227242928134298198194217305628544826824317287365450164687075497971420301584703131666761905875282389171412937455550475008276310744737647815139241785075332623298424606813537824⟩) .nil), (.tup (.cons (.slice 64 0 13 2 false) (.cons (.int .i64 (.ofNat 0)) (.cons (.int .i64 (.ofNat 0)) .nil)))), [.cells 165 (.cons (.int .i32 (.ofNat 768)) (.cons (.int .i32 (.ofNat 879)) (.cons (.int .i32 (.ofNat 1155)) (.cons (.int .i32 (.ofNat 1161)) (.cons (.int .i32 (.ofNat 1425)) (.cons (.int .i32 (.ofNat 1469)) (.cons (.int .i32 (.ofNat 1611)) (.cons (.int .i32 (.ofNat 1631)) (.cons (.int .i32 (.ofNat 2364)) (.cons (.int .i32 (.ofNat 2364)) (.cons (.int .i32 (.ofNat 2381)) (.cons (.int .i32 (.ofNat 2381)) (.cons (.int .i32 (.ofNat 3636)) (.cons (.int .i32 (.ofNat 3642)) (.cons (.int .i32 (.ofNat 8204)) (.cons (.int .i32 (.ofNat 8204)) (.cons (.int .i32 (.ofNat 8400)) (.cons (.int .i32 (.ofNat 8432)) (.cons (.int .i32 (.ofNat 12441)) (.cons (.int .i32 (.ofNat 12442)) (.cons (.int .i32 (.ofNat 65024)) (.cons (.int .i32 (.ofNat 65039)) (.cons (.int .i32 (.ofNat 127995)) (.cons (.int .i32 (.ofNat 127999)) (.cons (.int .i32 (.ofNat 917536)) (.cons (.int .i32 (.ofNat 917631)) .nil))))))))))))))))))))))))))]⟩
theorem k175Ok : Am.OneOk Tryz.prog [] k175 :=
  Am.one_of_run (orc := orc0) (N := 999) (R := [238]) mixed progOk (extOk _) orc0Ok (by kernel_rfl) (by kernel_rfl) (by kernel_rfl) (by kernel_rfl)
noncomputable def k176 : Am.Known := ⟨93, (.cons (.str ⟨12, 26358446652303559166992734026⟩) (.cons (.int .u8 (.ofNat 35)) .nil)), (.int .i64 (.negSucc 0)), []⟩
theorem k176Ok : Am.OneOk Tryz.prog [] k176 :=
  Am.one_of_run (orc := orc0) (N := 999) (R := []) mixed progOk (extOk _) orc0Ok (by kernel_rfl) (by kernel_rfl) (by kernel_rfl) (by kernel_rfl)
noncomputable def k177 : Am.Known := ⟨93, (.cons (.str ⟨12, 26358446652303559166992734026⟩) (.cons (.int .u8 (.ofNat 59)) .nil)), (.int .i64 (.ofNat 7)), []⟩
theorem k177Ok : Am.OneOk Tryz.prog [] k177 :=
  Am.one_of_run (orc := orc0) (N := 999) (R := []) mixed progOk (extOk _) orc0Ok (by kernel_rfl) (by kernel_rfl) (by kernel_rfl) (by kernel_rfl)
noncomputable def k178 : Am.Known := ⟨96, (.cons (.str ⟨7, 23972867577234464⟩) .nil), (.tup (.cons (.slice 64 0 1 2 false) (.cons (.int .i64 (.ofNat 0)) (.cons (.int .i64 (.ofNat 0)) .nil)))), [.cells 165 (.cons (.int .i32 (.ofNat 8205)) (.cons (.int .i32 (.ofNat 8205)) .nil))]⟩
theorem k178Ok : Am.OneOk Tryz.prog [] k178 :=
  Am.one_of_run (orc := orc0) (N := 999) (R := [77]) mixed progOk (extOk _) orc0Ok (by kernel_rfl) (by kernel_rfl) (by kernel_rfl) (by kernel_rfl)
noncomputable def k179 : Am.Known := ⟨93, (.cons (.str ⟨48, 13108663381336717200139168278506299974797773952639873191124590358721702587825933956676157858880785953901713163383403⟩) (.cons (.int .u8 (.ofNat 35)) .nil)), (.int .i64 (.negSucc 0)), []⟩
theorem k179Ok : Am.OneOk Tryz.prog [] k179 :=
  Am.one_of_run (orc := orc0) (N := 999) (R := []) mixed progOk (extOk _) orc0Ok (by kernel_rfl) (by kernel_rfl) (by kernel_rfl) (by kernel_rfl)
noncomputable def k180 : Am.Known := ⟨93, (.cons (.str ⟨48, 13108663381336717200139168278506299974797773952639873191124590358721702587825933956676157858880785953901713163383403⟩) (.cons (.int .u8 (.ofNat 59)) .nil)), (.int .i64 (.ofNat 42)), []⟩
theorem k180Ok : Am.OneOk Tryz.prog [] k180 :=
  Am.one_of_run (orc := orc0) (N := 999) (R := []) mixed progOk (extOk _) orc0Ok (by kernel_rfl) (by kernel_rfl) (by kernel_rfl) (by kernel_rfl)
noncomputable def k181 : Am.Known := ⟨96, (.cons (.str ⟨42, 46571327705666182339922330436743536007774132033318441838519384954230782326426428442815669437780407072⟩) .nil), (.tup (.cons (.slice 64 0 4 2 false) (.cons (.int .i64 (.ofNat 0)) (.cons (.int .i64 (.ofNat 0)) .nil)))), [.cells 165 (.cons (.int .i32 (.ofNat 2307)) (.cons (.int .i32 (.ofNat 2307)) (.cons (.int .i32 (.ofNat 2366)) (.cons (.int .i32 (.ofNat 2368)) (.cons (.int .i32 (.ofNat 2377)) (.cons (.int .i32 (.ofNat 2380)) (.cons (.int .i32 (.ofNat 3635)) (.cons (.int .i32 (.ofNat 3635)) .nil))))))))]⟩
theorem k181Ok : Am.OneOk Tryz.prog [] k181 :=
  Am.one_of_run (orc := orc0) (N := 999) (R := [115]) mixed progOk (extOk _) orc0Ok (by kernel_rfl) (by kernel_rfl) (by kernel_rfl) (by kernel_rfl)
noncomputable def k182 : Am.Known := ⟨93, (.cons (.str ⟨45, 781337222684283314030409274232883888244721944197149379049606985155727226401363477861785488944471731561918052⟩) (.cons (.int .u8 (.ofNat 35)) .nil)), (.int .i64 (.negSucc 0)), []⟩
theorem k182Ok : Am.OneOk Tryz.prog [] k182 :=
  Am.one_of_run (orc := orc0) (N := 999) (R := []) mixed progOk (extOk _) orc0Ok (by kernel_rfl) (by kernel_rfl) (by kernel_rfl) (by kernel_rfl)
noncomputable def k183 : Am.Known := ⟨93, (.cons (.str ⟨45, 781337222684283314030409274232883888244721944197149379049606985155727226401363477861785488944471731561918052⟩) (.cons (.int .u8 (.ofNat 59)) .nil)), (.int .i64 (.ofNat 36)), []⟩
theorem k183Ok : Am.OneOk Tryz.prog [] k183 :=
  Am.one_of_run (orc := orc0) (N := 999) (R := []) mixed progOk (extOk _) orc0Ok (by kernel_rfl) (by kernel_rfl) (by kernel_rfl) (by kernel_rfl)
noncomputable def k184 : Am.Known := ⟨96, (.cons (.str ⟨36, 165454592632439516680354666206865962171671462575389653492108489735404476004368233153568⟩) .nil), (.tup (.cons (.slice 64 0 4 2 false) (.cons (.int .i64 (.ofNat 0)) (.cons (.int .i64 (.ofNat 0)) .nil)))), [.cells 165 (.cons (.int .i32 (.ofNat 1536)) (.cons (.int .i32 (.ofNat 1541)) (.cons (.int .i32 (.ofNat 1757)) (.cons (.int .i32 (.ofNat 1757)) (.cons (.int .i32 (.ofNat 1807)) (.cons (.int .i32 (.ofNat 1807)) (.cons (.int .i32 (.ofNat 69821)) (.cons (.int .i32 (.ofNat 69821)) .nil))))))))]⟩
theorem k184Ok : Am.OneOk Tryz.prog [] k184 :=
  Am.one_of_run (orc := orc0) (N := 999) (R := [114]) mixed progOk (extOk _) orc0Ok (by kernel_rfl) (by kernel_rfl) (by kernel_rfl) (by kernel_rfl)
noncomputable def k185 : Am.Known := ⟨93, (.cons (.str ⟨17, 28981413412300521447423255241175934378060⟩) (.cons (.int .u8 (.ofNat 35)) .nil)), (.int .i64 (.negSucc 0)), []⟩
theorem k185Ok : Am.OneOk Tryz.prog [] k185 :=
  Am.one_of_run (orc := orc0) (N := 999) (R := []) mixed progOk (extOk _) orc0Ok (by kernel_rfl) (by kernel_rfl) (by kernel_rfl) (by kernel_rfl)
noncomputable def k186 : Am.Known := ⟨93, (.cons (.str ⟨17, 28981413412300521447423255241175934378060⟩) (.cons (.int .u8 (.ofNat 59)) .nil)), (.int .i64 (.ofNat 14)), []⟩
theorem k186Ok : Am.OneOk Tryz.prog [] k186 :=
  Am.one_of_run (orc := orc0) (N := 999) (R := []) mixed progOk (extOk _) orc0Ok (by kernel_rfl) (by kernel_rfl) (by kernel_rfl) (by kernel_rfl)
noncomputable def k187 : Am.Known := ⟨96, (.cons (.str ⟨14, 1727426851528914061035111858914848⟩) .nil), (.tup (.cons (.slice 64 0 1 2 false) (.cons (.int .i64 (.ofNat 0)) (.cons (.int .i64 (.ofNat 0)) .nil)))), [.cells 165 (.cons (.int .i32 (.ofNat 4352)) (.cons (.int .i32 (.ofNat 4447)) .nil))]⟩
theorem k187Ok : Am.OneOk Tryz.prog [] k187 :=
  Am.one_of_run (orc := orc0) (N := 999) (R := [78]) mixed progOk (extOk _) orc0Ok (by kernel_rfl) (by kernel_rfl) (by kernel_rfl) (by kernel_rfl)
noncomputable def k188 : Am.Known := ⟨93, (.cons (.str ⟨17, 28981413412775890422508841279866913103958⟩) (.cons (.int .u8 (.ofNat 35)) .nil)), (.int .i64 (.negSucc 0)), []⟩
theorem k188Ok : Am.OneOk Tryz.prog [] k188 :=
  Am.one_of_run (orc := orc0) (N := 999) (R := []) mixed progOk (extOk _) orc0Ok (by kernel_rfl) (by kernel_rfl) (by kernel_rfl) (by kernel_rfl)
noncomputable def k189 : Am.Known := ⟨93, (.cons (.str ⟨17, 28981413412775890422508841279866913103958⟩) (.cons (.int .u8 (.ofNat 59)) .nil)), (.int .i64 (.ofNat 14)), []⟩
theorem k189Ok : Am.OneOk Tryz.prog [] k189 :=
  Am.one_of_run (orc := orc0) (N := 999) (R := []) mixed progOk (extOk _) orc0Ok (by kernel_rfl) (by kernel_rfl) (by kernel_rfl) (by kernel_rfl)
noncomputable def k190 : Am.Known := ⟨96, (.cons (.str ⟨14, 1727426851557248259932329730979616⟩) .nil), (.tup (.cons (.slice 64 0 1 2 false) (.cons (.int .i64 (.ofNat 0)) (.cons (.int .i64 (.ofNat 0)) .nil)))), [.cells 165 (.cons (.int .i32 (.ofNat 4448)) (.cons (.int .i32 (.ofNat 4519)) .nil))]⟩
theorem k190Ok : Am.OneOk Tryz.prog [] k190 :=
  Am.one_of_run (orc := orc0) (N := 999) (R := [78]) mixed progOk (extOk _) orc0Ok (by kernel_rfl) (by kernel_rfl) (by kernel_rfl) (by kernel_rfl)
noncomputable def k191 : Am.Known := ⟨93, (.cons (.str ⟨17, 28981413413649876090244319759507677454420⟩) (.cons (.int .u8 (.ofNat 35)) .nil)), (.int .i64 (.negSucc 0)), []⟩
theorem k191Ok : Am.OneOk Tryz.prog [] k191 :=
  Am.one_of_run (orc := orc0) (N := 999) (R := []) mixed progOk (extOk _) orc0Ok (by kernel_rfl) (by kernel_rfl) (by kernel_rfl) (by kernel_rfl)
noncomputable def k192 : Am.Known := ⟨93, (.cons (.str ⟨17, 28981413413649876090244319759507677454420⟩) (.cons (.int .u8 (.ofNat 59)) .nil)), (.int .i64 (.ofNat 14)), []⟩
theorem k192Ok : Am.OneOk Tryz.prog [] k192 :=
  Am.one_of_run (orc := orc0) (N := 999) (R := []) mixed progOk (extOk _) orc0Ok (by kernel_rfl) (by kernel_rfl) (by kernel_rfl) (by kernel_rfl)
noncomputable def k193 : Am.Known := ⟨96, (.cons (.str ⟨14, 1727426851609341865196485505074720⟩) .nil), (.tup (.cons (.slice 64 0 1 2 false) (.cons (.int .i64 (.ofNat 0)) (.cons (.int .i64 (.ofNat 0)) .nil)))), [.cells 165 (.cons (.int .i32 (.ofNat 4520)) (.cons (.int .i32 (.ofNat 4607)) .nil))]⟩
theorem k193Ok : Am.OneOk Tryz.prog [] k193 :=
  Am.one_of_run (orc := orc0) (N := 999) (R := [78]) mixed progOk (extOk _) orc0Ok (by kernel_rfl) (by kernel_rfl) (by kernel_rfl) (by kernel_rfl)
noncomputable def k194 : Am.Known := ⟨93, (.cons (.str ⟨17, 28981496854133630870396750156416841097288⟩) (.cons (.int .u8 (.ofNat 35)) .nil)), (.int .i64 (.negSucc 0)), []⟩
theorem k194Ok : Am.OneOk Tryz.prog [] k194 :=
  Am.one_of_run (orc := orc0) (N := 999) (R := []) mixed progOk (extOk _) orc0Ok (by kernel_rfl) (by kernel_rfl) (by kernel_rfl) (by kernel_rfl)
noncomputable def k195 : Am.Known := ⟨93, (.cons (.str ⟨17, 28981496854133630870396750156416841097288⟩) (.cons (.int .u8 (.ofNat 59)) .nil)), (.int .i64 (.ofNat 14)), []⟩
theorem k195Ok : Am.OneOk Tryz.prog [] k195 :=
  Am.one_of_run (orc := orc0) (N := 999) (R := []) mixed progOk (extOk _) orc0Ok (by kernel_rfl) (by kernel_rfl) (by kernel_rfl) (by kernel_rfl)
noncomputable def k196 : Am.Known := ⟨96, (.cons (.str ⟨14, 1727431825049735955619618305946400⟩) .nil), (.tup (.cons (.slice 64 0 1 2 false) (.cons (.int .i64 (.ofNat 0)) (.cons (.int .i64 (.ofNat 0)) .nil)))), [.cells 165 (.cons (.int .i32 (.ofNat 44032)) (.cons (.int .i32 (.ofNat 55203)) .nil))]⟩
theorem k196Ok : Am.OneOk Tryz.prog [] k196 :=
  Am.one_of_run (orc := orc0) (N := 999) (R := [78]) mixed progOk (extOk _) orc0Ok (by kernel_rfl) (by kernel_rfl) (by kernel_rfl) (by kernel_rfl)
noncomputable def k197 : Am.Known := ⟨93, (.cons (.str ⟨187, 729312382048363867716027128988606504401672981289541077057678900647817079821021309423722899065903920076698862539711700232417329709247976156961511083949357372349871721032340816147194261755943622886105768417703721231561151701609150708220310831754073698141706031660180085780735991835883935093698862445859294786869902735541220340474173390221422570208834343699453588182257457684294521790841168703959461221434535885148985004571570749005499947984641789092724⟩) (.cons (.int .u8 (.ofNat 35)) .nil)), (.int .i64 (.negSucc 0)), []⟩
theorem k197Ok : Am.OneOk Tryz.prog [] k197 :=
  Am.one_of_run (orc := orc0) (N := 999) (R := []) mixed progOk (extOk _) orc0Ok (by kernel_rfl) (by kernel_rfl) (by kernel_rfl) (by kernel_rfl)
noncomputable def k198 : Am.Known := ⟨93, (.cons (.str ⟨187, 729312382048363867716027128988606504401672981289541077057678900647817079821021309423722899065903920076698862539711700232417329709247976156961511083949357372349871721032340816147194261755943622886105768417703721231561151701609150708220310831754073698141706031660180085780735991835883935093698862445859294786869902735541220340474173390221422570208834343699453588182257457684294521790841168703959461221434535885148985004571570749005499947984641789092724⟩) (.cons (.int .u8 (.ofNat 59)) .nil)), (.int .i64 (.ofNat 181)), []⟩
theorem k198Ok : Am.OneOk Tryz.prog [] k198 :=
  Am.one_of_run (orc := orc0) (N := 999) (R := []) mixed progOk (extOk _) orc0Ok (by kernel_rfl) (by kernel_rfl) (by kernel_rfl) (by kernel_rfl)
noncomputable def k199 : Am.Known := ⟨96, (.cons (.str ⟨181, 2591038075821799209975989445057843256853661917523158838099842074057537927775105790657487500062586321109488318866850776460414812551562051215233534705182298453784539024384304241789302600395016976925808792549701284825265019057415652199766181353460843077633434573883804168945971439924434545409677576962292614790576915366462246270182040284955684833110589493186117196125399636074940168096394077337974199868975716345960993452634009589294450208⟩) .nil), (.tup (.cons (.slice 64 0 17 2 false) (.cons (.int .i64 (.ofNat 0)) (.cons (.int .i64 (.ofNat 0)) .nil)))), [.cells 165 (.cons (.int .i32 (.ofNat 169)) (.cons (.int .i32 (.ofNat 169)) (.cons (.int .i32 (.ofNat 174)) (.cons (.int .i32 (.ofNat 174)) (.cons (.int .i32 (.ofNat 8252)) (.cons (.int .i32 (.ofNat 8252)) (.cons (.int .i32 (.ofNat 8265)) (.cons (.int .i32 (.ofNat 8265)) (.cons (.int .i32 (.ofNat 8482)) (.cons (.int .i32 (.ofNat 8482)) (.cons (.int .i32 (.ofNat 8592)) (.cons (.int .i32 (.ofNat 8703)) (.cons (.int .i32 (.ofNat 8960)) (.cons (.int .i32 (.ofNat 9215)) (.cons (.int .i32 (.ofNat 9632)) (.cons (.int .i32 (.ofNat 10175)) (.cons (.int .i32 (.ofNat 10548)) (.cons (.int .i32 (.ofNat 10549)) (.cons (.int .i32 (.ofNat 11013)) (.cons (.int .i32 (.ofNat 11093)) (.cons (.int .i32 (.ofNat 12336)) (.cons (.int .i32 (.ofNat 12336)) (.cons (.int .i32 (.ofNat 12349)) (.cons (.int .i32 (.ofNat 12349)) (.cons (.int .i32 (.ofNat 12951)) (.cons (.int .i32 (.ofNat 12951)) (.cons (.int .i32 (.ofNat 12953)) (.cons (.int .i32 (.ofNat 12953)) (.cons (.int .i32 (.ofNat 126976)) (.cons (.int .i32 (.ofNat 127231)) (.cons (.int .i32 (.ofNat 127744)) (.cons (.int .i32 (.ofNat 127994)) (.cons (.int .i32 (.ofNat 128000)) (.cons (.int .i32 (.ofNat 129791)) .nil))))))))))))))))))))))))))))))))))]⟩
theorem k199Ok : Am.OneOk Tryz.prog [] k199 :=
  Am.one_of_run (orc := orc0) (N := 999) (R := [284]) mixed progOk (extOk _) orc0Ok (by kernel_rfl) (by kernel_rfl) (by kernel_rfl) (by kernel_rfl)
noncomputable def k200 : Am.Known := ⟨93, (.cons (.str ⟨22, 31865401504617664098541602475372820131314828569239911⟩) (.cons (.int .u8 (.ofNat 35)) .nil)), (.int .i64 (.negSucc 0)), []⟩
theorem k200Ok : Am.OneOk Tryz.prog [] k200 :=
  Am.one_of_run (orc := orc0) (N := 999) (R := []) mixed progOk (extOk _) orc0Ok (by kernel_rfl) (by kernel_rfl) (by kernel_rfl) (by kernel_rfl)
noncomputable def k201 : Am.Known := ⟨93, (.cons (.str ⟨22, 31865401504617664098541602475372820131314828569239911⟩) (.cons (.int .u8 (.ofNat 59)) .nil)), (.int .i64 (.ofNat 16)), []⟩
theorem k201Ok : Am.OneOk Tryz.prog [] k201 :=
  Am.one_of_run (orc := orc0) (N := 999) (R := []) mixed progOk (extOk _) orc0Ok (by kernel_rfl) (by kernel_rfl) (by kernel_rfl) (by kernel_rfl)
noncomputable def k202 : Am.Known := ⟨96, (.cons (.str ⟨16, 113208647805925238922034745582482245152⟩) .nil), (.tup (.cons (.slice 64 0 1 2 false) (.cons (.int .i64 (.ofNat 0)) (.cons (.int .i64 (.ofNat 0)) .nil)))), [.cells 165 (.cons (.int .i32 (.ofNat 127462)) (.cons (.int .i32 (.ofNat 127487)) .nil))]⟩
theorem k202Ok : Am.OneOk Tryz.prog [] k202 :=
  Am.one_of_run (orc := orc0) (N := 999) (R := [78]) mixed progOk (extOk _) orc0Ok (by kernel_rfl) (by kernel_rfl) (by kernel_rfl) (by kernel_rfl)
noncomputable def k203 : Am.Known := ⟨93, (.cons (.str ⟨0, 0⟩) (.cons (.int .u8 (.ofNat 35)) .nil)), (.int .i64 (.negSucc 0)), []⟩
theorem k203Ok : Am.OneOk Tryz.prog [] k203 :=
  Am.one_of_run (orc := orc0) (N := 999) (R := []) mixed progOk (extOk _) orc0Ok (by kernel_rfl) (by kernel_rfl) (by kernel_rfl) (by kernel_rfl)
noncomputable def k213 : Am.Known := ⟨93, (.cons (.str ⟨11, 102962645342072630576956274⟩) (.cons (.int .u8 (.ofNat 35)) .nil)), (.int .i64 (.negSucc 0)), []⟩
theorem k213Ok : Am.OneOk Tryz.prog [] k213 :=
  Am.one_of_run (orc := orc0) (N := 999) (R := []) mixed progOk (extOk _) orc0Ok (by kernel_rfl) (by kernel_rfl) (by kernel_rfl) (by kernel_rfl)
noncomputable def k214 : Am.Known := ⟨93, (.cons (.str ⟨11, 102962645342072630576956274⟩) (.cons (.int .u8 (.ofNat 59)) .nil)), (.int .i64 (.ofNat 7)), []⟩
theorem k214Ok : Am.OneOk Tryz.prog [] k214 :=
  Am.one_of_run (orc := orc0) (N := 999) (R := []) mixed progOk (extOk _) orc0Ok (by kernel_rfl) (by kernel_rfl) (by kernel_rfl) (by kernel_rfl)
noncomputable def k215 : Am.Known := ⟨93, (.cons (.str ⟨11, 102962645342069332042075238⟩) (.cons (.int .u8 (.ofNat 35)) .nil)), (.int .i64 (.negSucc 0)), []⟩
theorem k215Ok : Am.OneOk Tryz.prog [] k215 :=
  Am.one_of_run (orc := orc0) (N := 999) (R := []) mixed progOk (extOk _) orc0Ok (by kernel_rfl) (by kernel_rfl) (by kernel_rfl) (by kernel_rfl)
noncomputable def k216 : Am.Known := ⟨93, (.cons (.str ⟨11, 102962645342069332042075238⟩) (.cons (.int .u8 (.ofNat 59)) .nil)), (.int .i64 (.ofNat 7)), []⟩
theorem k216Ok : Am.OneOk Tryz.prog [] k216 :=
  Am.one_of_run (orc := orc0) (N := 999) (R := []) mixed progOk (extOk _) orc0Ok (by kernel_rfl) (by kernel_rfl) (by kernel_rfl) (by kernel_rfl)
noncomputable def k217 : Am.Known := ⟨93, (.cons (.str ⟨44, 3052098513295144491175279115474655982047259546392459122305089092793647301173523202258876683156664928005733⟩) (.cons (.int .u8 (.ofNat 35)) .nil)), (.int .i64 (.negSucc 0)), []⟩
theorem k217Ok : Am.OneOk Tryz.prog [] k217 :=
  Am.one_of_run (orc := orc0) (N := 999) (R := []) mixed progOk (extOk _) orc0Ok (by kernel_rfl) (by kernel_rfl) (by kernel_rfl) (by kernel_rfl)
noncomputable def k218 : Am.Known := ⟨93, (.cons (.str ⟨44, 3052098513295144491175279115474655982047259546392459122305089092793647301173523202258876683156664928005733⟩) (.cons (.int .u8 (.ofNat 59)) .nil)), (.int .i64 (.ofNat 35)), []⟩
theorem k218Ok : Am.OneOk Tryz.prog [] k218 :=
  Am.one_of_run (orc := orc0) (N := 999) (R := []) mixed progOk (extOk _) orc0Ok (by kernel_rfl) (by kernel_rfl) (by kernel_rfl) (by kernel_rfl)
noncomputable def k219 : Am.Known := ⟨96, (.cons (.str ⟨35, 646306999756713651487972604159212219804466208536330531885073003534155536406863296800⟩) .nil), (.tup (.cons (.slice 64 0 3 2 false) (.cons (.int .i64 (.ofNat 0)) (.cons (.int .i64 (.ofNat 0)) .nil)))), [.cells 165 (.cons (.int .i32 (.ofNat 11)) (.cons (.int .i32 (.ofNat 12)) (.cons (.int .i32 (.ofNat 133)) (.cons (.int .i32 (.ofNat 133)) (.cons (.int .i32 (.ofNat 8232)) (.cons (.int .i32 (.ofNat 8233)) .nil))))))]⟩
theorem k219Ok : Am.OneOk Tryz.prog [] k219 :=
  Am.one_of_run (orc := orc0) (N := 999) (R := [120]) mixed progOk (extOk _) orc0Ok (by kernel_rfl) (by kernel_rfl) (by kernel_rfl) (by kernel_rfl)
noncomputable def k220 : Am.Known := ⟨93, (.cons (.str ⟨87, 109374745793798077731466287446704071054708059713780281727653771413754140008473658607898046647987275390033337484795703891766353468316936655161738219694591137714697908445710362856236636827344652762359634940227172⟩) (.cons (.int .u8 (.ofNat 35)) .nil)), (.int .i64 (.negSucc 0)), []⟩
theorem k220Ok : Am.OneOk Tryz.prog [] k220 :=
  Am.one_of_run (orc := orc0) (N := 999) (R := []) mixed progOk (extOk _) orc0Ok (by kernel_rfl) (by kernel_rfl) (by kernel_rfl) (by kernel_rfl)
noncomputable def k221 : Am.Known := ⟨93, (.cons (.str ⟨87, 109374745793798077731466287446704071054708059713780281727653771413754140008473658607898046647987275390033337484795703891766353468316936655161738219694591137714697908445710362856236636827344652762359634940227172⟩) (.cons (.int .u8 (.ofNat 59)) .nil)), (.int .i64 (.ofNat 79)), []⟩
theorem k221Ok : Am.OneOk Tryz.prog [] k221 :=
  Am.one_of_run (orc := orc0) (N := 999) (R := []) mixed progOk (extOk _) orc0Ok (by kernel_rfl) (by kernel_rfl) (by kernel_rfl) (by kernel_rfl)
end Go.Proofs.YtfmnninijakknaaGreatDoor.searchPieces
