/- SearchNil's closed run: calls whose results are known. -/
import Derived.Test.YtofmmjfbmiinoabGreatDoorBase
namespace Go.Proofs.YtofmmjfbmiinoabGreatDoor.searchNil
noncomputable def k193 : Am.Known := ⟨117, (.cons (.str ⟨14, 1727426851609341865196485505074720⟩) .nil), (.tup (.cons (.slice 64 0 1 2 false) (.cons (.int .i64 (.ofNat 0)) (.cons (.int .i64 (.ofNat 0)) .nil)))), [.cells 189 (.cons (.int .i32 (.ofNat 4520)) (.cons (.int .i32 (.ofNat 4607)) .nil))]⟩
theorem k193Ok : Am.OneOk Tryz.prog [] k193 :=
  Am.one_of_run (orc := orc0) (N := 999) (R := [78]) mixed progOk (extOk _) orc0Ok (by kernel_rfl) (by kernel_rfl) (by kernel_rfl) (by kernel_rfl)
noncomputable def k194 : Am.Known := ⟨114, (.cons (.str ⟨17, 28981496854133630870396750156416841097288⟩) (.cons (.int .u8 (.ofNat 35)) .nil)), (.int .i64 (.negSucc 0)), []⟩
theorem k194Ok : Am.OneOk Tryz.prog [] k194 :=
  Am.one_of_run (orc := orc0) (N := 999) (R := []) mixed progOk (extOk _) orc0Ok (by kernel_rfl) (by kernel_rfl) (by kernel_rfl) (by kernel_rfl)
noncomputable def k195 : Am.Known := ⟨114, (.cons (.str ⟨17, 28981496854133630870396750156416841097288⟩) (.cons (.int .u8 (.ofNat 59)) .nil)), (.int .i64 (.ofNat 14)), []⟩
theorem k195Ok : Am.OneOk Tryz.prog [] k195 :=
  Am.one_of_run (orc := orc0) (N := 999) (R := []) mixed progOk (extOk _) orc0Ok (by kernel_rfl) (by kernel_rfl) (by kernel_rfl) (by kernel_rfl)
noncomputable def k196 : Am.Known := ⟨117, (.cons (.str ⟨14, 1727431825049735955619618305946400⟩) .nil), (.tup (.cons (.slice 64 0 1 2 false) (.cons (.int .i64 (.ofNat 0)) (.cons (.int .i64 (.ofNat 0)) .nil)))), [.cells 189 (.cons (.int .i32 (.ofNat 44032)) (.cons (.int .i32 (.ofNat 55203)) .nil))]⟩
theorem k196Ok : Am.OneOk Tryz.prog [] k196 :=
  Am.one_of_run (orc := orc0) (N := 999) (R := [78]) mixed progOk (extOk _) orc0Ok (by kernel_rfl) (by kernel_rfl) (by kernel_rfl) (by kernel_rfl)
noncomputable def k197 : Am.Known := ⟨114, (.cons (.str ⟨187, 729312382048363867716027128988606504401672981289541077057678900647817079821021309423722899065903920076698862539711700232417329709247976156961511083949357372349871721032340816147194261755943622886105768417703721231561151701609150708220310831754073698141706031660180085780735991835883935093698862445859294786869902735541220340474173390221422570208834343699453588182257457684294521790841168703959461221434535885148985004571570749005499947984641789092724⟩) (.cons (.int .u8 (.ofNat 35)) .nil)), (.int .i64 (.negSucc 0)), []⟩
theorem k197Ok : Am.OneOk Tryz.prog [] k197 :=
  Am.one_of_run (orc := orc0) (N := 999) (R := []) mixed progOk (extOk _) orc0Ok (by kernel_rfl) (by kernel_rfl) (by kernel_rfl) (by kernel_rfl)
noncomputable def k198 : Am.Known := ⟨114, (.cons (.str ⟨187, 729312382048363867716027128988606504401672981289541077057678900647817079821021309423722899065903920076698862539711700232417329709247976156961511083949357372349871721032340816147194261755943622886105768417703721231561151701609150708220310831754073698141706031660180085780735991835883935093698862445859294786869902735541220340474173390221422570208834343699453588182257457684294521790841168703959461221434535885148985004571570749005499947984641789092724⟩) (.cons (.int .u8 (.ofNat 59)) .nil)), (.int .i64 (.ofNat 181)), []⟩
theorem k198Ok : Am.OneOk Tryz.prog [] k198 :=
  Am.one_of_run (orc := orc0) (N := 999) (R := []) mixed progOk (extOk _) orc0Ok (by kernel_rfl) (by kernel_rfl) (by kernel_rfl) (by kernel_rfl)
noncomputable def k199 : Am.Known := ⟨117, (.cons (.str ⟨181, 2591038075821799209975989445057843256853661917523158838099842074057537927775105790657487500062586321109488318866850776460414812551562051215233534705182298453784539024384304241789302600395016976925808792549701284825265019057415652199766181353460843077633434573883804168945971439924434545409677576962292614790576915366462246270182040284955684833110589493186117196125399636074940168096394077337974199868975716345960993452634009589294450208⟩) .nil), (.tup (.cons (.slice 64 0 17 2 false) (.cons (.int .i64 (.ofNat 0)) (.cons (.int .i64 (.ofNat 0)) .nil)))), [.cells 189 (.cons (.int .i32 (.ofNat 169)) (.cons (.int .i32 (.ofNat 169)) (.cons (.int .i32 (.ofNat 174)) (.cons (.int .i32 (.ofNat 174)) (.cons (.int .i32 (.ofNat 8252)) (.cons (.int .i32 (.ofNat 8252)) (.cons (.int .i32 (.ofNat 8265)) (.cons (.int .i32 (.ofNat 8265)) (.cons (.int .i32 (.ofNat 8482)) (.cons (.int .i32 (.ofNat 8482)) (.cons (.int .i32 (.ofNat 8592)) (.cons (.int .i32 (.ofNat 8703)) (.cons (.int .i32 (.ofNat 8960)) (.cons (.int .i32 (.ofNat 9215)) (.cons (.int .i32 (.ofNat 9632)) (.cons (.int .i32 (.ofNat 10175)) (.cons (.int .i32 (.ofNat 10548)) (.cons (.int .i32 (.ofNat 10549)) (.cons (.int .i32 (.ofNat 11013)) (.cons (.int .i32 (.ofNat 11093)) (.cons (.int .i32 (.ofNat 12336)) (.cons (.int .i32 (.ofNat 12336)) (.cons (.int .i32 (.ofNat 12349)) (.cons (.int .i32 (.ofNat 12349)) (.cons (.int .i32 (.ofNat 12951)) (.cons (.int .i32 (.ofNat 12951)) (.cons (.int .i32 (.ofNat 12953)) (.cons (.int .i32 (.ofNat 12953)) (.cons (.int .i32 (.ofNat 126976)) (.cons (.int .i32 (.ofNat 127231)) (.cons (.int .i32 (.ofNat 127744)) (.cons (.int .i32 (.ofNat 127994)) (.cons (.int .i32 (.ofNat 128000)) (.cons (.int .i32 (.ofNat 129791)) .nil))))))))))))))))))))))))))))))))))]⟩
theorem k199Ok : Am.OneOk Tryz.prog [] k199 :=
  Am.one_of_run (orc := orc0) (N := 999) (R := [284]) mixed progOk (extOk _) orc0Ok (by kernel_rfl) (by kernel_rfl) (by kernel_rfl) (by kernel_rfl)
noncomputable def k200 : Am.Known := ⟨114, (.cons (.str ⟨22, 31865401504617664098541602475372820131314828569239911⟩) (.cons (.int .u8 (.ofNat 35)) .nil)), (.int .i64 (.negSucc 0)), []⟩
theorem k200Ok : Am.OneOk Tryz.prog [] k200 :=
  Am.one_of_run (orc := orc0) (N := 999) (R := []) mixed progOk (extOk _) orc0Ok (by kernel_rfl) (by kernel_rfl) (by kernel_rfl) (by kernel_rfl)
noncomputable def k201 : Am.Known := ⟨114, (.cons (.str ⟨22, 31865401504617664098541602475372820131314828569239911⟩) (.cons (.int .u8 (.ofNat 59)) .nil)), (.int .i64 (.ofNat 16)), []⟩
theorem k201Ok : Am.OneOk Tryz.prog [] k201 :=
  Am.one_of_run (orc := orc0) (N := 999) (R := []) mixed progOk (extOk _) orc0Ok (by kernel_rfl) (by kernel_rfl) (by kernel_rfl) (by kernel_rfl)
noncomputable def k202 : Am.Known := ⟨117, (.cons (.str ⟨16, 113208647805925238922034745582482245152⟩) .nil), (.tup (.cons (.slice 64 0 1 2 false) (.cons (.int .i64 (.ofNat 0)) (.cons (.int .i64 (.ofNat 0)) .nil)))), [.cells 189 (.cons (.int .i32 (.ofNat 127462)) (.cons (.int .i32 (.ofNat 127487)) .nil))]⟩
theorem k202Ok : Am.OneOk Tryz.prog [] k202 :=
  Am.one_of_run (orc := orc0) (N := 999) (R := [78]) mixed progOk (extOk _) orc0Ok (by kernel_rfl) (by kernel_rfl) (by kernel_rfl) (by kernel_rfl)
noncomputable def k203 : Am.Known := ⟨114, (.cons (.str ⟨0, 0⟩) (.cons (.int .u8 (.ofNat 35)) .nil)), (.int .i64 (.negSucc 0)), []⟩
theorem k203Ok : Am.OneOk Tryz.prog [] k203 :=
  Am.one_of_run (orc := orc0) (N := 999) (R := []) mixed progOk (extOk _) orc0Ok (by kernel_rfl) (by kernel_rfl) (by kernel_rfl) (by kernel_rfl)
noncomputable def k213 : Am.Known := ⟨114, (.cons (.str ⟨11, 102962645342072630576956274⟩) (.cons (.int .u8 (.ofNat 35)) .nil)), (.int .i64 (.negSucc 0)), []⟩
theorem k213Ok : Am.OneOk Tryz.prog [] k213 :=
  Am.one_of_run (orc := orc0) (N := 999) (R := []) mixed progOk (extOk _) orc0Ok (by kernel_rfl) (by kernel_rfl) (by kernel_rfl) (by kernel_rfl)
noncomputable def k214 : Am.Known := ⟨114, (.cons (.str ⟨11, 102962645342072630576956274⟩) (.cons (.int .u8 (.ofNat 59)) .nil)), (.int .i64 (.ofNat 7)), []⟩
theorem k214Ok : Am.OneOk Tryz.prog [] k214 :=
  Am.one_of_run (orc := orc0) (N := 999) (R := []) mixed progOk (extOk _) orc0Ok (by kernel_rfl) (by kernel_rfl) (by kernel_rfl) (by kernel_rfl)
noncomputable def k215 : Am.Known := ⟨114, (.cons (.str ⟨11, 102962645342069332042075238⟩) (.cons (.int .u8 (.ofNat 35)) .nil)), (.int .i64 (.negSucc 0)), []⟩
theorem k215Ok : Am.OneOk Tryz.prog [] k215 :=
  Am.one_of_run (orc := orc0) (N := 999) (R := []) mixed progOk (extOk _) orc0Ok (by kernel_rfl) (by kernel_rfl) (by kernel_rfl) (by kernel_rfl)
noncomputable def k216 : Am.Known := ⟨114, (.cons (.str ⟨11, 102962645342069332042075238⟩) (.cons (.int .u8 (.ofNat 59)) .nil)), (.int .i64 (.ofNat 7)), []⟩
theorem k216Ok : Am.OneOk Tryz.prog [] k216 :=
  Am.one_of_run (orc := orc0) (N := 999) (R := []) mixed progOk (extOk _) orc0Ok (by kernel_rfl) (by kernel_rfl) (by kernel_rfl) (by kernel_rfl)
noncomputable def k217 : Am.Known := ⟨114, (.cons (.str ⟨44, 3052098513295144491175279115474655982047259546392459122305089092793647301173523202258876683156664928005733⟩) (.cons (.int .u8 (.ofNat 35)) .nil)), (.int .i64 (.negSucc 0)), []⟩
theorem k217Ok : Am.OneOk Tryz.prog [] k217 :=
  Am.one_of_run (orc := orc0) (N := 999) (R := []) mixed progOk (extOk _) orc0Ok (by kernel_rfl) (by kernel_rfl) (by kernel_rfl) (by kernel_rfl)
noncomputable def k218 : Am.Known := ⟨114, (.cons (.str ⟨44, 3052098513295144491175279115474655982047259546392459122305089092793647301173523202258876683156664928005733⟩) (.cons (.int .u8 (.ofNat 59)) .nil)), (.int .i64 (.ofNat 35)), []⟩
theorem k218Ok : Am.OneOk Tryz.prog [] k218 :=
  Am.one_of_run (orc := orc0) (N := 999) (R := []) mixed progOk (extOk _) orc0Ok (by kernel_rfl) (by kernel_rfl) (by kernel_rfl) (by kernel_rfl)
noncomputable def k219 : Am.Known := ⟨117, (.cons (.str ⟨35, 646306999756713651487972604159212219804466208536330531885073003534155536406863296800⟩) .nil), (.tup (.cons (.slice 64 0 3 2 false) (.cons (.int .i64 (.ofNat 0)) (.cons (.int .i64 (.ofNat 0)) .nil)))), [.cells 189 (.cons (.int .i32 (.ofNat 11)) (.cons (.int .i32 (.ofNat 12)) (.cons (.int .i32 (.ofNat 133)) (.cons (.int .i32 (.ofNat 133)) (.cons (.int .i32 (.ofNat 8232)) (.cons (.int .i32 (.ofNat 8233)) .nil))))))]⟩
theorem k219Ok : Am.OneOk Tryz.prog [] k219 :=
  Am.one_of_run (orc := orc0) (N := 999) (R := [120]) mixed progOk (extOk _) orc0Ok (by kernel_rfl) (by kernel_rfl) (by kernel_rfl) (by kernel_rfl)
noncomputable def k220 : Am.Known := ⟨114, (.cons (.str ⟨87, 109374745793798077731466287446704071054708059713780281727653771413754140008473658607898046647987275390033337484795703891766353468316936655161738219694591137714697908445710362856236636827344652762359634940227172⟩) (.cons (.int .u8 (.ofNat 35)) .nil)), (.int .i64 (.negSucc 0)), []⟩
theorem k220Ok : Am.OneOk Tryz.prog [] k220 :=
  Am.one_of_run (orc := orc0) (N := 999) (R := []) mixed progOk (extOk _) orc0Ok (by kernel_rfl) (by kernel_rfl) (by kernel_rfl) (by kernel_rfl)
noncomputable def k221 : Am.Known := ⟨114, (.cons (.str ⟨87, 109374745793798077731466287446704071054708059713780281727653771413754140008473658607898046647987275390033337484795703891766353468316936655161738219694591137714697908445710362856236636827344652762359634940227172⟩) (.cons (.int .u8 (.ofNat 59)) .nil)), (.int .i64 (.ofNat 79)), []⟩
theorem k221Ok : Am.OneOk Tryz.prog [] k221 :=
  Am.one_of_run (orc := orc0) (N := 999) (R := []) mixed progOk (extOk _) orc0Ok (by kernel_rfl) (by kernel_rfl) (by kernel_rfl) (by kernel_rfl)
noncomputable def k222 : Am.Known := ⟨117, (.cons (.str ⟨79, 5929216850234283202860377311719905190599185760515963193576609921233948460984889263462895635496689640435676379309526661354372543072569404349136111829793269629968448309693342181225438927799840⟩) .nil), (.tup (.cons (.slice 64 0 6 2 false) (.cons (.int .i64 (.ofNat 0)) (.cons (.int .i64 (.ofNat 0)) .nil)))), [.cells 189 (.cons (.int .i32 (.ofNat 768)) (.cons (.int .i32 (.ofNat 879)) (.cons (.int .i32 (.ofNat 1425)) (.cons (.int .i32 (.ofNat 1469)) (.cons (.int .i32 (.ofNat 8204)) (.cons (.int .i32 (.ofNat 8204)) (.cons (.int .i32 (.ofNat 12441)) (.cons (.int .i32 (.ofNat 12442)) (.cons (.int .i32 (.ofNat 65024)) (.cons (.int .i32 (.ofNat 65039)) (.cons (.int .i32 (.ofNat 127995)) (.cons (.int .i32 (.ofNat 127999)) .nil))))))))))))]⟩
theorem k222Ok : Am.OneOk Tryz.prog [] k222 :=
  Am.one_of_run (orc := orc0) (N := 999) (R := [142]) mixed progOk (extOk _) orc0Ok (by kernel_rfl) (by kernel_rfl) (by kernel_rfl) (by kernel_rfl)
noncomputable def k223 : Am.Known := ⟨114, (.cons (.str ⟨12, 26358446652303559166992742250⟩) (.cons (.int .u8 (.ofNat 35)) .nil)), (.int .i64 (.negSucc 0)), []⟩
theorem k223Ok : Am.OneOk Tryz.prog [] k223 :=
  Am.one_of_run (orc := orc0) (N := 999) (R := []) mixed progOk (extOk _) orc0Ok (by kernel_rfl) (by kernel_rfl) (by kernel_rfl) (by kernel_rfl)
noncomputable def k224 : Am.Known := ⟨114, (.cons (.str ⟨12, 26358446652303559166992742250⟩) (.cons (.int .u8 (.ofNat 59)) .nil)), (.int .i64 (.ofNat 7)), []⟩
theorem k224Ok : Am.OneOk Tryz.prog [] k224 :=
  Am.one_of_run (orc := orc0) (N := 999) (R := []) mixed progOk (extOk _) orc0Ok (by kernel_rfl) (by kernel_rfl) (by kernel_rfl) (by kernel_rfl)
noncomputable def k225 : Am.Known := ⟨114, (.cons (.str ⟨43, 11922259818113486583713515356601898912852945974653850833384057371298666739992785151466653294255435243892⟩) (.cons (.int .u8 (.ofNat 35)) .nil)), (.int .i64 (.negSucc 0)), []⟩
theorem k225Ok : Am.OneOk Tryz.prog [] k225 :=
  Am.one_of_run (orc := orc0) (N := 999) (R := []) mixed progOk (extOk _) orc0Ok (by kernel_rfl) (by kernel_rfl) (by kernel_rfl) (by kernel_rfl)
noncomputable def k226 : Am.Known := ⟨114, (.cons (.str ⟨43, 11922259818113486583713515356601898912852945974653850833384057371298666739992785151466653294255435243892⟩) (.cons (.int .u8 (.ofNat 59)) .nil)), (.int .i64 (.ofNat 35)), []⟩
theorem k226Ok : Am.OneOk Tryz.prog [] k226 :=
  Am.one_of_run (orc := orc0) (N := 999) (R := []) mixed progOk (extOk _) orc0Ok (by kernel_rfl) (by kernel_rfl) (by kernel_rfl) (by kernel_rfl)
noncomputable def k227 : Am.Known := ⟨117, (.cons (.str ⟨35, 646306999786763855081901932765983226752024296178517137860620651960078211122018534944⟩) .nil), (.tup (.cons (.slice 64 0 4 2 false) (.cons (.int .i64 (.ofNat 0)) (.cons (.int .i64 (.ofNat 0)) .nil)))), [.cells 189 (.cons (.int .i32 (.ofNat 173)) (.cons (.int .i32 (.ofNat 173)) (.cons (.int .i32 (.ofNat 8206)) (.cons (.int .i32 (.ofNat 8207)) (.cons (.int .i32 (.ofNat 8288)) (.cons (.int .i32 (.ofNat 8288)) (.cons (.int .i32 (.ofNat 65279)) (.cons (.int .i32 (.ofNat 65279)) .nil))))))))]⟩
theorem k227Ok : Am.OneOk Tryz.prog [] k227 :=
  Am.one_of_run (orc := orc0) (N := 999) (R := [123]) mixed progOk (extOk _) orc0Ok (by kernel_rfl) (by kernel_rfl) (by kernel_rfl) (by kernel_rfl)
noncomputable def k228 : Am.Known := ⟨114, (.cons (.str ⟨24, 2088330953006623234362022459826033140125848618277882392430⟩) (.cons (.int .u8 (.ofNat 35)) .nil)), (.int .i64 (.negSucc 0)), []⟩
theorem k228Ok : Am.OneOk Tryz.prog [] k228 :=
  Am.one_of_run (orc := orc0) (N := 999) (R := []) mixed progOk (extOk _) orc0Ok (by kernel_rfl) (by kernel_rfl) (by kernel_rfl) (by kernel_rfl)
noncomputable def k229 : Am.Known := ⟨114, (.cons (.str ⟨24, 2088330953006623234362022459826033140125848618277882392430⟩) (.cons (.int .u8 (.ofNat 59)) .nil)), (.int .i64 (.ofNat 16)), []⟩
theorem k229Ok : Am.OneOk Tryz.prog [] k229 :=
  Am.one_of_run (orc := orc0) (N := 999) (R := []) mixed progOk (extOk _) orc0Ok (by kernel_rfl) (by kernel_rfl) (by kernel_rfl) (by kernel_rfl)
noncomputable def k230 : Am.Known := ⟨114, (.cons (.str ⟨45, 781337639391866508504201187779187946012194669205983057871570759725283076476569418566082126905897795018911329⟩) (.cons (.int .u8 (.ofNat 35)) .nil)), (.int .i64 (.negSucc 0)), []⟩
theorem k230Ok : Am.OneOk Tryz.prog [] k230 :=
  Am.one_of_run (orc := orc0) (N := 999) (R := []) mixed progOk (extOk _) orc0Ok (by kernel_rfl) (by kernel_rfl) (by kernel_rfl) (by kernel_rfl)
noncomputable def k231 : Am.Known := ⟨114, (.cons (.str ⟨45, 781337639391866508504201187779187946012194669205983057871570759725283076476569418566082126905897795018911329⟩) (.cons (.int .u8 (.ofNat 59)) .nil)), (.int .i64 (.ofNat 35)), []⟩
theorem k231Ok : Am.OneOk Tryz.prog [] k231 :=
  Am.one_of_run (orc := orc0) (N := 999) (R := []) mixed progOk (extOk _) orc0Ok (by kernel_rfl) (by kernel_rfl) (by kernel_rfl) (by kernel_rfl)
noncomputable def k232 : Am.Known := ⟨117, (.cons (.str ⟨35, 646307347162900784329207463202393888615434979877137147860092084526487897329676928032⟩) .nil), (.tup (.cons (.slice 64 0 3 2 false) (.cons (.int .i64 (.ofNat 0)) (.cons (.int .i64 (.ofNat 0)) .nil)))), [.cells 189 (.cons (.int .i32 (.ofNat 12449)) (.cons (.int .i32 (.ofNat 12538)) (.cons (.int .i32 (.ofNat 12540)) (.cons (.int .i32 (.ofNat 12540)) (.cons (.int .i32 (.ofNat 65382)) (.cons (.int .i32 (.ofNat 65437)) .nil))))))]⟩
theorem k232Ok : Am.OneOk Tryz.prog [] k232 :=
  Am.one_of_run (orc := orc0) (N := 999) (R := [103]) mixed progOk (extOk _) orc0Ok (by kernel_rfl) (by kernel_rfl) (by kernel_rfl) (by kernel_rfl)
noncomputable def k233 : Am.Known := ⟨114, (.cons (.str ⟨22, 31865395418162200646468038266090274653540499837838711⟩) (.cons (.int .u8 (.ofNat 35)) .nil)), (.int .i64 (.negSucc 0)), []⟩
theorem k233Ok : Am.OneOk Tryz.prog [] k233 :=
  Am.one_of_run (orc := orc0) (N := 999) (R := []) mixed progOk (extOk _) orc0Ok (by kernel_rfl) (by kernel_rfl) (by kernel_rfl) (by kernel_rfl)
noncomputable def k234 : Am.Known := ⟨114, (.cons (.str ⟨22, 31865395418162200646468038266090274653540499837838711⟩) (.cons (.int .u8 (.ofNat 59)) .nil)), (.int .i64 (.ofNat 14)), []⟩
theorem k234Ok : Am.OneOk Tryz.prog [] k234 :=
  Am.one_of_run (orc := orc0) (N := 999) (R := []) mixed progOk (extOk _) orc0Ok (by kernel_rfl) (by kernel_rfl) (by kernel_rfl) (by kernel_rfl)
end Go.Proofs.YtofmmjfbmiinoabGreatDoor.searchNil
