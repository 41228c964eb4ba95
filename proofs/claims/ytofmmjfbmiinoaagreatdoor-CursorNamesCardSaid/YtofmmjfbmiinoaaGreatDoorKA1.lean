/- CursorNames's closed run: calls whose results are known. -/
import Derived.Test.YtofmmjfbmiinoaaGreatDoorBase
namespace Go.Proofs.YtofmmjfbmiinoaaGreatDoor.cursorNames
noncomputable def k38 : Am.Known := ⟨84, (.cons (.str ⟨16, 113208647805925238922034745582482245152⟩) .nil), (.tup (.cons (.slice 64 0 1 2 false) (.cons (.int .i64 (.ofNat 0)) (.cons (.int .i64 (.ofNat 0)) .nil)))), [.cells 132 (.cons (.int .i32 (.ofNat 127462)) (.cons (.int .i32 (.ofNat 127487)) .nil))]⟩
theorem k38Ok : Am.OneOk Tryz.prog [] k38 :=
  Am.one_of_run (orc := orc0) (N := 999) (R := [78]) mixed progOk (extOk _) orc0Ok (by kernel_rfl) (by kernel_rfl) (by kernel_rfl) (by kernel_rfl)
noncomputable def k39 : Am.Known := ⟨81, (.cons (.str ⟨0, 0⟩) (.cons (.int .u8 (.ofNat 35)) .nil)), (.int .i64 (.negSucc 0)), []⟩
theorem k39Ok : Am.OneOk Tryz.prog [] k39 :=
  Am.one_of_run (orc := orc0) (N := 999) (R := []) mixed progOk (extOk _) orc0Ok (by kernel_rfl) (by kernel_rfl) (by kernel_rfl) (by kernel_rfl)
noncomputable def k44 : Am.Known := ⟨81, (.cons (.str ⟨11, 102962645342072630576956274⟩) (.cons (.int .u8 (.ofNat 35)) .nil)), (.int .i64 (.negSucc 0)), []⟩
theorem k44Ok : Am.OneOk Tryz.prog [] k44 :=
  Am.one_of_run (orc := orc0) (N := 999) (R := []) mixed progOk (extOk _) orc0Ok (by kernel_rfl) (by kernel_rfl) (by kernel_rfl) (by kernel_rfl)
noncomputable def k45 : Am.Known := ⟨81, (.cons (.str ⟨11, 102962645342072630576956274⟩) (.cons (.int .u8 (.ofNat 59)) .nil)), (.int .i64 (.ofNat 7)), []⟩
theorem k45Ok : Am.OneOk Tryz.prog [] k45 :=
  Am.one_of_run (orc := orc0) (N := 999) (R := []) mixed progOk (extOk _) orc0Ok (by kernel_rfl) (by kernel_rfl) (by kernel_rfl) (by kernel_rfl)
noncomputable def k46 : Am.Known := ⟨81, (.cons (.str ⟨11, 102962645342069332042075238⟩) (.cons (.int .u8 (.ofNat 35)) .nil)), (.int .i64 (.negSucc 0)), []⟩
theorem k46Ok : Am.OneOk Tryz.prog [] k46 :=
  Am.one_of_run (orc := orc0) (N := 999) (R := []) mixed progOk (extOk _) orc0Ok (by kernel_rfl) (by kernel_rfl) (by kernel_rfl) (by kernel_rfl)
noncomputable def k47 : Am.Known := ⟨81, (.cons (.str ⟨11, 102962645342069332042075238⟩) (.cons (.int .u8 (.ofNat 59)) .nil)), (.int .i64 (.ofNat 7)), []⟩
theorem k47Ok : Am.OneOk Tryz.prog [] k47 :=
  Am.one_of_run (orc := orc0) (N := 999) (R := []) mixed progOk (extOk _) orc0Ok (by kernel_rfl) (by kernel_rfl) (by kernel_rfl) (by kernel_rfl)
noncomputable def k48 : Am.Known := ⟨81, (.cons (.str ⟨44, 3052098513295144491175279115474655982047259546392459122305089092793647301173523202258876683156664928005733⟩) (.cons (.int .u8 (.ofNat 35)) .nil)), (.int .i64 (.negSucc 0)), []⟩
theorem k48Ok : Am.OneOk Tryz.prog [] k48 :=
  Am.one_of_run (orc := orc0) (N := 999) (R := []) mixed progOk (extOk _) orc0Ok (by kernel_rfl) (by kernel_rfl) (by kernel_rfl) (by kernel_rfl)
noncomputable def k49 : Am.Known := ⟨81, (.cons (.str ⟨44, 3052098513295144491175279115474655982047259546392459122305089092793647301173523202258876683156664928005733⟩) (.cons (.int .u8 (.ofNat 59)) .nil)), (.int .i64 (.ofNat 35)), []⟩
theorem k49Ok : Am.OneOk Tryz.prog [] k49 :=
  Am.one_of_run (orc := orc0) (N := 999) (R := []) mixed progOk (extOk _) orc0Ok (by kernel_rfl) (by kernel_rfl) (by kernel_rfl) (by kernel_rfl)
noncomputable def k50 : Am.Known := ⟨84, (.cons (.str ⟨35, 646306999756713651487972604159212219804466208536330531885073003534155536406863296800⟩) .nil), (.tup (.cons (.slice 64 0 3 2 false) (.cons (.int .i64 (.ofNat 0)) (.cons (.int .i64 (.ofNat 0)) .nil)))), [.cells 132 (.cons (.int .i32 (.ofNat 11)) (.cons (.int .i32 (.ofNat 12)) (.cons (.int .i32 (.ofNat 133)) (.cons (.int .i32 (.ofNat 133)) (.cons (.int .i32 (.ofNat 8232)) (.cons (.int .i32 (.ofNat 8233)) .nil))))))]⟩
theorem k50Ok : Am.OneOk Tryz.prog [] k50 :=
  Am.one_of_run (orc := orc0) (N := 999) (R := [120]) mixed progOk (extOk _) orc0Ok (by kernel_rfl) (by kernel_rfl) (by kernel_rfl) (by kernel_rfl)
noncomputable def k51 : Am.Known := ⟨81, (.cons (.str ⟨87, 109374745793798077731466287446704071054708059713780281727653771413754140008473658607898046647987275390033337484795703891766353468316936655161738219694591137714697908445710362856236636827344652762359634940227172⟩) (.cons (.int .u8 (.ofNat 35)) .nil)), (.int .i64 (.negSucc 0)), []⟩
theorem k51Ok : Am.OneOk Tryz.prog [] k51 :=
  Am.one_of_run (orc := orc0) (N := 999) (R := []) mixed progOk (extOk _) orc0Ok (by kernel_rfl) (by kernel_rfl) (by kernel_rfl) (by kernel_rfl)
noncomputable def k52 : Am.Known := ⟨81, (.cons (.str ⟨87, 109374745793798077731466287446704071054708059713780281727653771413754140008473658607898046647987275390033337484795703891766353468316936655161738219694591137714697908445710362856236636827344652762359634940227172⟩) (.cons (.int .u8 (.ofNat 59)) .nil)), (.int .i64 (.ofNat 79)), []⟩
theorem k52Ok : Am.OneOk Tryz.prog [] k52 :=
  Am.one_of_run (orc := orc0) (N := 999) (R := []) mixed progOk (extOk _) orc0Ok (by kernel_rfl) (by kernel_rfl) (by kernel_rfl) (by kernel_rfl)
noncomputable def k53 : Am.Known := ⟨84, (.cons (.str ⟨79, 5929216850234283202860377311719905190599185760515963193576609921233948460984889263462895635496689640435676379309526661354372543072569404349136111829793269629968448309693342181225438927799840⟩) .nil), (.tup (.cons (.slice 64 0 6 2 false) (.cons (.int .i64 (.ofNat 0)) (.cons (.int .i64 (.ofNat 0)) .nil)))), [.cells 132 (.cons (.int .i32 (.ofNat 768)) (.cons (.int .i32 (.ofNat 879)) (.cons (.int .i32 (.ofNat 1425)) (.cons (.int .i32 (.ofNat 1469)) (.cons (.int .i32 (.ofNat 8204)) (.cons (.int .i32 (.ofNat 8204)) (.cons (.int .i32 (.ofNat 12441)) (.cons (.int .i32 (.ofNat 12442)) (.cons (.int .i32 (.ofNat 65024)) (.cons (.int .i32 (.ofNat 65039)) (.cons (.int .i32 (.ofNat 127995)) (.cons (.int .i32 (.ofNat 127999)) .nil))))))))))))]⟩
theorem k53Ok : Am.OneOk Tryz.prog [] k53 :=
  Am.one_of_run (orc := orc0) (N := 999) (R := [142]) mixed progOk (extOk _) orc0Ok (by kernel_rfl) (by kernel_rfl) (by kernel_rfl) (by kernel_rfl)
noncomputable def k54 : Am.Known := ⟨81, (.cons (.str ⟨12, 26358446652303559166992742250⟩) (.cons (.int .u8 (.ofNat 35)) .nil)), (.int .i64 (.negSucc 0)), []⟩
theorem k54Ok : Am.OneOk Tryz.prog [] k54 :=
  Am.one_of_run (orc := orc0) (N := 999) (R := []) mixed progOk (extOk _) orc0Ok (by kernel_rfl) (by kernel_rfl) (by kernel_rfl) (by kernel_rfl)
noncomputable def k55 : Am.Known := ⟨81, (.cons (.str ⟨12, 26358446652303559166992742250⟩) (.cons (.int .u8 (.ofNat 59)) .nil)), (.int .i64 (.ofNat 7)), []⟩
theorem k55Ok : Am.OneOk Tryz.prog [] k55 :=
  Am.one_of_run (orc := orc0) (N := 999) (R := []) mixed progOk (extOk _) orc0Ok (by kernel_rfl) (by kernel_rfl) (by kernel_rfl) (by kernel_rfl)
noncomputable def k56 : Am.Known := ⟨81, (.cons (.str ⟨43, 11922259818113486583713515356601898912852945974653850833384057371298666739992785151466653294255435243892⟩) (.cons (.int .u8 (.ofNat 35)) .nil)), (.int .i64 (.negSucc 0)), []⟩
theorem k56Ok : Am.OneOk Tryz.prog [] k56 :=
  Am.one_of_run (orc := orc0) (N := 999) (R := []) mixed progOk (extOk _) orc0Ok (by kernel_rfl) (by kernel_rfl) (by kernel_rfl) (by kernel_rfl)
noncomputable def k57 : Am.Known := ⟨81, (.cons (.str ⟨43, 11922259818113486583713515356601898912852945974653850833384057371298666739992785151466653294255435243892⟩) (.cons (.int .u8 (.ofNat 59)) .nil)), (.int .i64 (.ofNat 35)), []⟩
theorem k57Ok : Am.OneOk Tryz.prog [] k57 :=
  Am.one_of_run (orc := orc0) (N := 999) (R := []) mixed progOk (extOk _) orc0Ok (by kernel_rfl) (by kernel_rfl) (by kernel_rfl) (by kernel_rfl)
noncomputable def k58 : Am.Known := ⟨84, (.cons (.str ⟨35, 646306999786763855081901932765983226752024296178517137860620651960078211122018534944⟩) .nil), (.tup (.cons (.slice 64 0 4 2 false) (.cons (.int .i64 (.ofNat 0)) (.cons (.int .i64 (.ofNat 0)) .nil)))), [.cells 132 (.cons (.int .i32 (.ofNat 173)) (.cons (.int .i32 (.ofNat 173)) (.cons (.int .i32 (.ofNat 8206)) (.cons (.int .i32 (.ofNat 8207)) (.cons (.int .i32 (.ofNat 8288)) (.cons (.int .i32 (.ofNat 8288)) (.cons (.int .i32 (.ofNat 65279)) (.cons (.int .i32 (.ofNat 65279)) .nil))))))))]⟩
theorem k58Ok : Am.OneOk Tryz.prog [] k58 :=
  Am.one_of_run (orc := orc0) (N := 999) (R := [123]) mixed progOk (extOk _) orc0Ok (by kernel_rfl) (by kernel_rfl) (by kernel_rfl) (by kernel_rfl)
noncomputable def k59 : Am.Known := ⟨81, (.cons (.str ⟨24, 2088330953006623234362022459826033140125848618277882392430⟩) (.cons (.int .u8 (.ofNat 35)) .nil)), (.int .i64 (.negSucc 0)), []⟩
theorem k59Ok : Am.OneOk Tryz.prog [] k59 :=
  Am.one_of_run (orc := orc0) (N := 999) (R := []) mixed progOk (extOk _) orc0Ok (by kernel_rfl) (by kernel_rfl) (by kernel_rfl) (by kernel_rfl)
noncomputable def k60 : Am.Known := ⟨81, (.cons (.str ⟨24, 2088330953006623234362022459826033140125848618277882392430⟩) (.cons (.int .u8 (.ofNat 59)) .nil)), (.int .i64 (.ofNat 16)), []⟩
theorem k60Ok : Am.OneOk Tryz.prog [] k60 :=
  Am.one_of_run (orc := orc0) (N := 999) (R := []) mixed progOk (extOk _) orc0Ok (by kernel_rfl) (by kernel_rfl) (by kernel_rfl) (by kernel_rfl)
noncomputable def k61 : Am.Known := ⟨81, (.cons (.str ⟨45, 781337639391866508504201187779187946012194669205983057871570759725283076476569418566082126905897795018911329⟩) (.cons (.int .u8 (.ofNat 35)) .nil)), (.int .i64 (.negSucc 0)), []⟩
theorem k61Ok : Am.OneOk Tryz.prog [] k61 :=
  Am.one_of_run (orc := orc0) (N := 999) (R := []) mixed progOk (extOk _) orc0Ok (by kernel_rfl) (by kernel_rfl) (by kernel_rfl) (by kernel_rfl)
noncomputable def k62 : Am.Known := ⟨81, (.cons (.str ⟨45, 781337639391866508504201187779187946012194669205983057871570759725283076476569418566082126905897795018911329⟩) (.cons (.int .u8 (.ofNat 59)) .nil)), (.int .i64 (.ofNat 35)), []⟩
theorem k62Ok : Am.OneOk Tryz.prog [] k62 :=
  Am.one_of_run (orc := orc0) (N := 999) (R := []) mixed progOk (extOk _) orc0Ok (by kernel_rfl) (by kernel_rfl) (by kernel_rfl) (by kernel_rfl)
noncomputable def k63 : Am.Known := ⟨84, (.cons (.str ⟨35, 646307347162900784329207463202393888615434979877137147860092084526487897329676928032⟩) .nil), (.tup (.cons (.slice 64 0 3 2 false) (.cons (.int .i64 (.ofNat 0)) (.cons (.int .i64 (.ofNat 0)) .nil)))), [.cells 132 (.cons (.int .i32 (.ofNat 12449)) (.cons (.int .i32 (.ofNat 12538)) (.cons (.int .i32 (.ofNat 12540)) (.cons (.int .i32 (.ofNat 12540)) (.cons (.int .i32 (.ofNat 65382)) (.cons (.int .i32 (.ofNat 65437)) .nil))))))]⟩
theorem k63Ok : Am.OneOk Tryz.prog [] k63 :=
  Am.one_of_run (orc := orc0) (N := 999) (R := [103]) mixed progOk (extOk _) orc0Ok (by kernel_rfl) (by kernel_rfl) (by kernel_rfl) (by kernel_rfl)
noncomputable def k64 : Am.Known := ⟨81, (.cons (.str ⟨22, 31865395418162200646468038266090274653540499837838711⟩) (.cons (.int .u8 (.ofNat 35)) .nil)), (.int .i64 (.negSucc 0)), []⟩
theorem k64Ok : Am.OneOk Tryz.prog [] k64 :=
  Am.one_of_run (orc := orc0) (N := 999) (R := []) mixed progOk (extOk _) orc0Ok (by kernel_rfl) (by kernel_rfl) (by kernel_rfl) (by kernel_rfl)
noncomputable def k65 : Am.Known := ⟨81, (.cons (.str ⟨22, 31865395418162200646468038266090274653540499837838711⟩) (.cons (.int .u8 (.ofNat 59)) .nil)), (.int .i64 (.ofNat 14)), []⟩
theorem k65Ok : Am.OneOk Tryz.prog [] k65 :=
  Am.one_of_run (orc := orc0) (N := 999) (R := []) mixed progOk (extOk _) orc0Ok (by kernel_rfl) (by kernel_rfl) (by kernel_rfl) (by kernel_rfl)
noncomputable def k66 : Am.Known := ⟨84, (.cons (.str ⟨14, 1727426546974054847805948510421280⟩) .nil), (.tup (.cons (.slice 64 0 1 2 false) (.cons (.int .i64 (.ofNat 0)) (.cons (.int .i64 (.ofNat 0)) .nil)))), [.cells 132 (.cons (.int .i32 (.ofNat 1488)) (.cons (.int .i32 (.ofNat 1514)) .nil))]⟩
theorem k66Ok : Am.OneOk Tryz.prog [] k66 :=
  Am.one_of_run (orc := orc0) (N := 999) (R := [78]) mixed progOk (extOk _) orc0Ok (by kernel_rfl) (by kernel_rfl) (by kernel_rfl) (by kernel_rfl)
noncomputable def k67 : Am.Known := ⟨81, (.cons (.str ⟨197, 881684569191506948176507925224321212670630020064500166016324012680339360188844711546437381232706706424275027617500772924004940810228828212721601121553051754883680246897234503138281856678109551471426714214383087634287845641761971409102330288869007776686403090281317096610728238811985665409584488369099841897278353396837693518746600530489218735221972139630456935570412315705579723291608320872203682972431339382484772891797594089989067079273564524624433139967619794577738982770⟩) (.cons (.int .u8 (.ofNat 35)) .nil)), (.int .i64 (.negSucc 0)), []⟩
theorem k67Ok : Am.OneOk Tryz.prog [] k67 :=
  Am.one_of_run (orc := orc0) (N := 999) (R := []) mixed progOk (extOk _) orc0Ok (by kernel_rfl) (by kernel_rfl) (by kernel_rfl) (by kernel_rfl)
noncomputable def k68 : Am.Known := ⟨81, (.cons (.str ⟨197, 881684569191506948176507925224321212670630020064500166016324012680339360188844711546437381232706706424275027617500772924004940810228828212721601121553051754883680246897234503138281856678109551471426714214383087634287845641761971409102330288869007776686403090281317096610728238811985665409584488369099841897278353396837693518746600530489218735221972139630456935570412315705579723291608320872203682972431339382484772891797594089989067079273564524624433139967619794577738982770⟩) (.cons (.int .u8 (.ofNat 59)) .nil)), (.int .i64 (.ofNat 189)), []⟩
theorem k68Ok : Am.OneOk Tryz.prog [] k68 :=
  Am.one_of_run (orc := orc0) (N := 999) (R := []) mixed progOk (extOk _) orc0Ok (by kernel_rfl) (by kernel_rfl) (by kernel_rfl) (by kernel_rfl)
noncomputable def k69 : Am.Known := ⟨84, (.cons (.str ⟨189, 47796216268218894245224438495460505218962572958021264489542968480658919141169575152104251620225624674479285672752148981168228425996885036591051909308594642066181034718052065805636761978270963194748996472060092123182962989798759645643316497239030416317468770040657806539236801308391786112603058618461485915363589737586653143181002316750343043633986582086496280937947299497294284449764381664347368492016531186556293266229138881812374313162899450495499253280⟩) .nil), (.tup (.cons (.slice 64 0 15 2 false) (.cons (.int .i64 (.ofNat 0)) (.cons (.int .i64 (.ofNat 0)) .nil)))), [.cells 132 (.cons (.int .i32 (.ofNat 65)) (.cons (.int .i32 (.ofNat 90)) (.cons (.int .i32 (.ofNat 97)) (.cons (.int .i32 (.ofNat 122)) (.cons (.int .i32 (.ofNat 170)) (.cons (.int .i32 (.ofNat 170)) (.cons (.int .i32 (.ofNat 181)) (.cons (.int .i32 (.ofNat 181)) (.cons (.int .i32 (.ofNat 192)) (.cons (.int .i32 (.ofNat 214)) (.cons (.int .i32 (.ofNat 216)) (.cons (.int .i32 (.ofNat 246)) (.cons (.int .i32 (.ofNat 248)) (.cons (.int .i32 (.ofNat 687)) (.cons (.int .i32 (.ofNat 880)) (.cons (.int .i32 (.ofNat 883)) (.cons (.int .i32 (.ofNat 902)) (.cons (.int .i32 (.ofNat 902)) (.cons (.int .i32 (.ofNat 904)) (.cons (.int .i32 (.ofNat 1153)) (.cons (.int .i32 (.ofNat 1162)) (.cons (.int .i32 (.ofNat 1366)) (.cons (.int .i32 (.ofNat 1568)) (.cons (.int .i32 (.ofNat 1610)) (.cons (.int .i32 (.ofNat 7680)) (.cons (.int .i32 (.ofNat 8124)) (.cons (.int .i32 (.ofNat 44032)) (.cons (.int .i32 (.ofNat 55203)) (.cons (.int .i32 (.ofNat 64256)) (.cons (.int .i32 (.ofNat 64262)) .nil))))))))))))))))))))))))))))))]⟩
theorem k69Ok : Am.OneOk Tryz.prog [] k69 :=
  Am.one_of_run (orc := orc0) (N := 999) (R := [264]) mixed progOk (extOk _) orc0Ok (by kernel_rfl) (by kernel_rfl) (by kernel_rfl) (by kernel_rfl)
noncomputable def k70 : Am.Known := ⟨81, (.cons (.str ⟨14, 1727426540844551336170641284887653⟩) (.cons (.int .u8 (.ofNat 35)) .nil)), (.int .i64 (.negSucc 0)), []⟩
theorem k70Ok : Am.OneOk Tryz.prog [] k70 :=
  Am.one_of_run (orc := orc0) (N := 999) (R := []) mixed progOk (extOk _) orc0Ok (by kernel_rfl) (by kernel_rfl) (by kernel_rfl) (by kernel_rfl)
noncomputable def k71 : Am.Known := ⟨81, (.cons (.str ⟨14, 1727426540844551336170641284887653⟩) (.cons (.int .u8 (.ofNat 59)) .nil)), (.int .i64 (.ofNat 7)), []⟩
theorem k71Ok : Am.OneOk Tryz.prog [] k71 :=
  Am.one_of_run (orc := orc0) (N := 999) (R := []) mixed progOk (extOk _) orc0Ok (by kernel_rfl) (by kernel_rfl) (by kernel_rfl) (by kernel_rfl)
noncomputable def k72 : Am.Known := ⟨84, (.cons (.str ⟨7, 23972858987427616⟩) .nil), (.tup (.cons (.slice 64 0 1 2 false) (.cons (.int .i64 (.ofNat 0)) (.cons (.int .i64 (.ofNat 0)) .nil)))), [.cells 132 (.cons (.int .i32 (.ofNat 39)) (.cons (.int .i32 (.ofNat 39)) .nil))]⟩
theorem k72Ok : Am.OneOk Tryz.prog [] k72 :=
  Am.one_of_run (orc := orc0) (N := 999) (R := [77]) mixed progOk (extOk _) orc0Ok (by kernel_rfl) (by kernel_rfl) (by kernel_rfl) (by kernel_rfl)
noncomputable def k73 : Am.Known := ⟨81, (.cons (.str ⟨15, 442221194456181530227255501383691365⟩) (.cons (.int .u8 (.ofNat 35)) .nil)), (.int .i64 (.negSucc 0)), []⟩
theorem k73Ok : Am.OneOk Tryz.prog [] k73 :=
  Am.one_of_run (orc := orc0) (N := 999) (R := []) mixed progOk (extOk _) orc0Ok (by kernel_rfl) (by kernel_rfl) (by kernel_rfl) (by kernel_rfl)
noncomputable def k74 : Am.Known := ⟨81, (.cons (.str ⟨15, 442221194456181530227255501383691365⟩) (.cons (.int .u8 (.ofNat 59)) .nil)), (.int .i64 (.ofNat 7)), []⟩
theorem k74Ok : Am.OneOk Tryz.prog [] k74 :=
  Am.one_of_run (orc := orc0) (N := 999) (R := []) mixed progOk (extOk _) orc0Ok (by kernel_rfl) (by kernel_rfl) (by kernel_rfl) (by kernel_rfl)
noncomputable def k75 : Am.Known := ⟨84, (.cons (.str ⟨7, 23972858987426336⟩) .nil), (.tup (.cons (.slice 64 0 1 2 false) (.cons (.int .i64 (.ofNat 0)) (.cons (.int .i64 (.ofNat 0)) .nil)))), [.cells 132 (.cons (.int .i32 (.ofNat 34)) (.cons (.int .i32 (.ofNat 34)) .nil))]⟩
theorem k75Ok : Am.OneOk Tryz.prog [] k75 :=
  Am.one_of_run (orc := orc0) (N := 999) (R := [77]) mixed progOk (extOk _) orc0Ok (by kernel_rfl) (by kernel_rfl) (by kernel_rfl) (by kernel_rfl)
noncomputable def k76 : Am.Known := ⟨81, (.cons (.str ⟨32, 38522899136559251001869020367222784461000173260323798701840886774157990978932⟩) (.cons (.int .u8 (.ofNat 35)) .nil)), (.int .i64 (.negSucc 0)), []⟩
theorem k76Ok : Am.OneOk Tryz.prog [] k76 :=
  Am.one_of_run (orc := orc0) (N := 999) (R := []) mixed progOk (extOk _) orc0Ok (by kernel_rfl) (by kernel_rfl) (by kernel_rfl) (by kernel_rfl)
noncomputable def k77 : Am.Known := ⟨81, (.cons (.str ⟨32, 38522899136559251001869020367222784461000173260323798701840886774157990978932⟩) (.cons (.int .u8 (.ofNat 59)) .nil)), (.int .i64 (.ofNat 21)), []⟩
theorem k77Ok : Am.OneOk Tryz.prog [] k77 :=
  Am.one_of_run (orc := orc0) (N := 999) (R := []) mixed progOk (extOk _) orc0Ok (by kernel_rfl) (by kernel_rfl) (by kernel_rfl) (by kernel_rfl)
noncomputable def k78 : Am.Known := ⟨84, (.cons (.str ⟨21, 124474200410537430299940584012803905564054972872992⟩) .nil), (.tup (.cons (.slice 64 0 2 2 false) (.cons (.int .i64 (.ofNat 0)) (.cons (.int .i64 (.ofNat 0)) .nil)))), [.cells 132 (.cons (.int .i32 (.ofNat 46)) (.cons (.int .i32 (.ofNat 46)) (.cons (.int .i32 (.ofNat 8216)) (.cons (.int .i32 (.ofNat 8217)) .nil))))]⟩
theorem k78Ok : Am.OneOk Tryz.prog [] k78 :=
  Am.one_of_run (orc := orc0) (N := 999) (R := [98]) mixed progOk (extOk _) orc0Ok (by kernel_rfl) (by kernel_rfl) (by kernel_rfl) (by kernel_rfl)
noncomputable def k79 : Am.Known := ⟨81, (.cons (.str ⟨25, 534612619960446702596369228526970105700196800445869297263986⟩) (.cons (.int .u8 (.ofNat 35)) .nil)), (.int .i64 (.negSucc 0)), []⟩
theorem k79Ok : Am.OneOk Tryz.prog [] k79 :=
  Am.one_of_run (orc := orc0) (N := 999) (R := []) mixed progOk (extOk _) orc0Ok (by kernel_rfl) (by kernel_rfl) (by kernel_rfl) (by kernel_rfl)
noncomputable def k80 : Am.Known := ⟨81, (.cons (.str ⟨25, 534612619960446702596369228526970105700196800445869297263986⟩) (.cons (.int .u8 (.ofNat 59)) .nil)), (.int .i64 (.ofNat 14)), []⟩
theorem k80Ok : Am.OneOk Tryz.prog [] k80 :=
  Am.one_of_run (orc := orc0) (N := 999) (R := []) mixed progOk (extOk _) orc0Ok (by kernel_rfl) (by kernel_rfl) (by kernel_rfl) (by kernel_rfl)
noncomputable def k81 : Am.Known := ⟨84, (.cons (.str ⟨14, 1727426540849458177424549153486624⟩) .nil), (.tup (.cons (.slice 64 0 2 2 false) (.cons (.int .i64 (.ofNat 0)) (.cons (.int .i64 (.ofNat 0)) .nil)))), [.cells 132 (.cons (.int .i32 (.ofNat 58)) (.cons (.int .i32 (.ofNat 58)) (.cons (.int .i32 (.ofNat 183)) (.cons (.int .i32 (.ofNat 183)) .nil))))]⟩
theorem k81Ok : Am.OneOk Tryz.prog [] k81 :=
  Am.one_of_run (orc := orc0) (N := 999) (R := [89]) mixed progOk (extOk _) orc0Ok (by kernel_rfl) (by kernel_rfl) (by kernel_rfl) (by kernel_rfl)
noncomputable def k82 : Am.Known := ⟨81, (.cons (.str ⟨29, 2296143718752767339324365151240777487913907576998265127545095834203501⟩) (.cons (.int .u8 (.ofNat 35)) .nil)), (.int .i64 (.negSucc 0)), []⟩
theorem k82Ok : Am.OneOk Tryz.prog [] k82 :=
  Am.one_of_run (orc := orc0) (N := 999) (R := []) mixed progOk (extOk _) orc0Ok (by kernel_rfl) (by kernel_rfl) (by kernel_rfl) (by kernel_rfl)
noncomputable def k83 : Am.Known := ⟨81, (.cons (.str ⟨29, 2296143718752767339324365151240777487913907576998265127545095834203501⟩) (.cons (.int .u8 (.ofNat 59)) .nil)), (.int .i64 (.ofNat 21)), []⟩
theorem k83Ok : Am.OneOk Tryz.prog [] k83 :=
  Am.one_of_run (orc := orc0) (N := 999) (R := []) mixed progOk (extOk _) orc0Ok (by kernel_rfl) (by kernel_rfl) (by kernel_rfl) (by kernel_rfl)
noncomputable def k84 : Am.Known := ⟨84, (.cons (.str ⟨21, 124474200410534771843948395220667655666264859624224⟩) .nil), (.tup (.cons (.slice 64 0 3 2 false) (.cons (.int .i64 (.ofNat 0)) (.cons (.int .i64 (.ofNat 0)) .nil)))), [.cells 132 (.cons (.int .i32 (.ofNat 44)) (.cons (.int .i32 (.ofNat 44)) (.cons (.int .i32 (.ofNat 59)) (.cons (.int .i32 (.ofNat 59)) (.cons (.int .i32 (.ofNat 1644)) (.cons (.int .i32 (.ofNat 1644)) .nil))))))]⟩
theorem k84Ok : Am.OneOk Tryz.prog [] k84 :=
  Am.one_of_run (orc := orc0) (N := 999) (R := [101]) mixed progOk (extOk _) orc0Ok (by kernel_rfl) (by kernel_rfl) (by kernel_rfl) (by kernel_rfl)
noncomputable def k85 : Am.Known := ⟨81, (.cons (.str ⟨35, 646306999761890311727372200030707593620892115532166527907551812706387454142544570740⟩) (.cons (.int .u8 (.ofNat 35)) .nil)), (.int .i64 (.negSucc 0)), []⟩
theorem k85Ok : Am.OneOk Tryz.prog [] k85 :=
  Am.one_of_run (orc := orc0) (N := 999) (R := []) mixed progOk (extOk _) orc0Ok (by kernel_rfl) (by kernel_rfl) (by kernel_rfl) (by kernel_rfl)
noncomputable def k86 : Am.Known := ⟨81, (.cons (.str ⟨35, 646306999761890311727372200030707593620892115532166527907551812706387454142544570740⟩) (.cons (.int .u8 (.ofNat 59)) .nil)), (.int .i64 (.ofNat 28)), []⟩
theorem k86Ok : Am.OneOk Tryz.prog [] k86 :=
  Am.one_of_run (orc := orc0) (N := 999) (R := []) mixed progOk (extOk _) orc0Ok (by kernel_rfl) (by kernel_rfl) (by kernel_rfl) (by kernel_rfl)
noncomputable def k87 : Am.Known := ⟨84, (.cons (.str ⟨28, 8969311401400702373312326387981668807404424464016036820761976387872⟩) .nil), (.tup (.cons (.slice 64 0 2 2 false) (.cons (.int .i64 (.ofNat 0)) (.cons (.int .i64 (.ofNat 0)) .nil)))), [.cells 132 (.cons (.int .i32 (.ofNat 48)) (.cons (.int .i32 (.ofNat 57)) (.cons (.int .i32 (.ofNat 1632)) (.cons (.int .i32 (.ofNat 1641)) .nil))))]⟩
theorem k87Ok : Am.OneOk Tryz.prog [] k87 :=
  Am.one_of_run (orc := orc0) (N := 999) (R := [91]) mixed progOk (extOk _) orc0Ok (by kernel_rfl) (by kernel_rfl) (by kernel_rfl) (by kernel_rfl)
noncomputable def k88 : Am.Known := ⟨81, (.cons (.str ⟨19, 1899325567803338724192797612438505756314857335⟩) (.cons (.int .u8 (.ofNat 35)) .nil)), (.int .i64 (.negSucc 0)), []⟩
theorem k88Ok : Am.OneOk Tryz.prog [] k88 :=
  Am.one_of_run (orc := orc0) (N := 999) (R := []) mixed progOk (extOk _) orc0Ok (by kernel_rfl) (by kernel_rfl) (by kernel_rfl) (by kernel_rfl)
noncomputable def k89 : Am.Known := ⟨81, (.cons (.str ⟨19, 1899325567803338724192797612438505756314857335⟩) (.cons (.int .u8 (.ofNat 59)) .nil)), (.int .i64 (.ofNat 14)), []⟩
theorem k89Ok : Am.OneOk Tryz.prog [] k89 :=
  Am.one_of_run (orc := orc0) (N := 999) (R := []) mixed progOk (extOk _) orc0Ok (by kernel_rfl) (by kernel_rfl) (by kernel_rfl) (by kernel_rfl)
noncomputable def k90 : Am.Known := ⟨84, (.cons (.str ⟨14, 1727426540858995144110665580627488⟩) .nil), (.tup (.cons (.slice 64 0 2 2 false) (.cons (.int .i64 (.ofNat 0)) (.cons (.int .i64 (.ofNat 0)) .nil)))), [.cells 132 (.cons (.int .i32 (.ofNat 95)) (.cons (.int .i32 (.ofNat 95)) (.cons (.int .i32 (.ofNat 8255)) (.cons (.int .i32 (.ofNat 8255)) .nil))))]⟩
theorem k90Ok : Am.OneOk Tryz.prog [] k90 :=
  Am.one_of_run (orc := orc0) (N := 999) (R := [89]) mixed progOk (extOk _) orc0Ok (by kernel_rfl) (by kernel_rfl) (by kernel_rfl) (by kernel_rfl)
noncomputable def k91 : Am.Known := ⟨81, (.cons (.str ⟨35, 646306999760123114183290356544478532603697536029104660685782261552694891962693673829⟩) (.cons (.int .u8 (.ofNat 35)) .nil)), (.int .i64 (.negSucc 0)), []⟩
theorem k91Ok : Am.OneOk Tryz.prog [] k91 :=
  Am.one_of_run (orc := orc0) (N := 999) (R := []) mixed progOk (extOk _) orc0Ok (by kernel_rfl) (by kernel_rfl) (by kernel_rfl) (by kernel_rfl)
noncomputable def k92 : Am.Known := ⟨81, (.cons (.str ⟨35, 646306999760123114183290356544478532603697536029104660685782261552694891962693673829⟩) (.cons (.int .u8 (.ofNat 59)) .nil)), (.int .i64 (.ofNat 28)), []⟩
theorem k92Ok : Am.OneOk Tryz.prog [] k92 :=
  Am.one_of_run (orc := orc0) (N := 999) (R := []) mixed progOk (extOk _) orc0Ok (by kernel_rfl) (by kernel_rfl) (by kernel_rfl) (by kernel_rfl)
end Go.Proofs.YtofmmjfbmiinoaaGreatDoor.cursorNames
