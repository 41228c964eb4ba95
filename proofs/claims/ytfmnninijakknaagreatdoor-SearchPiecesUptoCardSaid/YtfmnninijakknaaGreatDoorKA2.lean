/- SearchPieces's closed run: calls whose results are known. -/
import Derived.Test.YtfmnninijakknaaGreatDoorBase
namespace Go.Proofs.YtfmnninijakknaaGreatDoor.searchPieces
noncomputable def k222 : Am.Known := ⟨96, (.cons (.str ⟨79, 5929216850234283202860377311719905190599185760515963193576609921233948460984889263462895635496689640435676379309526661354372543072569404349136111829793269629968448309693342181225438927799840⟩) .nil), (.tup (.cons (.slice 64 0 6 2 false) (.cons (.int .i64 (.ofNat 0)) (.cons (.int .i64 (.ofNat 0)) .nil)))), [.cells 165 (.cons (.int .i32 (.ofNat 768)) (.cons (.int .i32 (.ofNat 879)) (.cons (.int .i32 (.ofNat 1425)) (.cons (.int .i32 (.ofNat 1469)) (.cons (.int .i32 (.ofNat 8204)) (.cons (.int .i32 (.ofNat 8204)) (.cons (.int .i32 (.ofNat 12441)) (.cons (.int .i32 (.ofNat 12442)) (.cons (.int .i32 (.ofNat 65024)) (.cons (.int .i32 (.ofNat 65039)) (.cons (.int .i32 (.ofNat 127995)) (.cons (.int .i32 (.ofNat 127999)) .nil))))))))))))]⟩
theorem k222Ok : Am.OneOk Tryz.prog [] k222 :=
  Am.one_of_run (orc := orc0) (N := 999) (R := [142]) mixed progOk (extOk _) orc0Ok (by kernel_rfl) (by kernel_rfl) (by kernel_rfl) (by kernel_rfl)
noncomputable def k223 : Am.Known := ⟨93, (.cons (.str ⟨12, 26358446652303559166992742250⟩) (.cons (.int .u8 (.ofNat 35)) .nil)), (.int .i64 (.negSucc 0)), []⟩
theorem k223Ok : Am.OneOk Tryz.prog [] k223 :=
  Am.one_of_run (orc := orc0) (N := 999) (R := []) mixed progOk (extOk _) orc0Ok (by kernel_rfl) (by kernel_rfl) (by kernel_rfl) (by kernel_rfl)
noncomputable def k224 : Am.Known := ⟨93, (.cons (.str ⟨12, 26358446652303559166992742250⟩) (.cons (.int .u8 (.ofNat 59)) .nil)), (.int .i64 (.ofNat 7)), []⟩
theorem k224Ok : Am.OneOk Tryz.prog [] k224 :=
  Am.one_of_run (orc := orc0) (N := 999) (R := []) mixed progOk (extOk _) orc0Ok (by kernel_rfl) (by kernel_rfl) (by kernel_rfl) (by kernel_rfl)
noncomputable def k225 : Am.Known := ⟨93, (.cons (.str ⟨43, 11922259818113486583713515356601898912852945974653850833384057371298666739992785151466653294255435243892⟩) (.cons (.int .u8 (.ofNat 35)) .nil)), (.int .i64 (.negSucc 0)), []⟩
theorem k225Ok : Am.OneOk Tryz.prog [] k225 :=
  Am.one_of_run (orc := orc0) (N := 999) (R := []) mixed progOk (extOk _) orc0Ok (by kernel_rfl) (by kernel_rfl) (by kernel_rfl) (by kernel_rfl)
noncomputable def k226 : Am.Known := ⟨93, (.cons (.str ⟨43, 11922259818113486583713515356601898912852945974653850833384057371298666739992785151466653294255435243892⟩) (.cons (.int .u8 (.ofNat 59)) .nil)), (.int .i64 (.ofNat 35)), []⟩
theorem k226Ok : Am.OneOk Tryz.prog [] k226 :=
  Am.one_of_run (orc := orc0) (N := 999) (R := []) mixed progOk (extOk _) orc0Ok (by kernel_rfl) (by kernel_rfl) (by kernel_rfl) (by kernel_rfl)
noncomputable def k227 : Am.Known := ⟨96, (.cons (.str ⟨35, 646306999786763855081901932765983226752024296178517137860620651960078211122018534944⟩) .nil), (.tup (.cons (.slice 64 0 4 2 false) (.cons (.int .i64 (.ofNat 0)) (.cons (.int .i64 (.ofNat 0)) .nil)))), [.cells 165 (.cons (.int .i32 (.ofNat 173)) (.cons (.int .i32 (.ofNat 173)) (.cons (.int .i32 (.ofNat 8206)) (.cons (.int .i32 (.ofNat 8207)) (.cons (.int .i32 (.ofNat 8288)) (.cons (.int .i32 (.ofNat 8288)) (.cons (.int .i32 (.ofNat 65279)) (.cons (.int .i32 (.ofNat 65279)) .nil))))))))]⟩
theorem k227Ok : Am.OneOk Tryz.prog [] k227 :=
  Am.one_of_run (orc := orc0) (N := 999) (R := [123]) mixed progOk (extOk _) orc0Ok (by kernel_rfl) (by kernel_rfl) (by kernel_rfl) (by kernel_rfl)
noncomputable def k228 : Am.Known := ⟨93, (.cons (.str ⟨24, 2088330953006623234362022459826033140125848618277882392430⟩) (.cons (.int .u8 (.ofNat 35)) .nil)), (.int .i64 (.negSucc 0)), []⟩
theorem k228Ok : Am.OneOk Tryz.prog [] k228 :=
  Am.one_of_run (orc := orc0) (N := 999) (R := []) mixed progOk (extOk _) orc0Ok (by kernel_rfl) (by kernel_rfl) (by kernel_rfl) (by kernel_rfl)
noncomputable def k229 : Am.Known := ⟨93, (.cons (.str ⟨24, 2088330953006623234362022459826033140125848618277882392430⟩) (.cons (.int .u8 (.ofNat 59)) .nil)), (.int .i64 (.ofNat 16)), []⟩
theorem k229Ok : Am.OneOk Tryz.prog [] k229 :=
  Am.one_of_run (orc := orc0) (N := 999) (R := []) mixed progOk (extOk _) orc0Ok (by kernel_rfl) (by kernel_rfl) (by kernel_rfl) (by kernel_rfl)
noncomputable def k230 : Am.Known := ⟨93, (.cons (.str ⟨45, 781337639391866508504201187779187946012194669205983057871570759725283076476569418566082126905897795018911329⟩) (.cons (.int .u8 (.ofNat 35)) .nil)), (.int .i64 (.negSucc 0)), []⟩
theorem k230Ok : Am.OneOk Tryz.prog [] k230 :=
  Am.one_of_run (orc := orc0) (N := 999) (R := []) mixed progOk (extOk _) orc0Ok (by kernel_rfl) (by kernel_rfl) (by kernel_rfl) (by kernel_rfl)
noncomputable def k231 : Am.Known := ⟨93, (.cons (.str ⟨45, 781337639391866508504201187779187946012194669205983057871570759725283076476569418566082126905897795018911329⟩) (.cons (.int .u8 (.ofNat 59)) .nil)), (.int .i64 (.ofNat 35)), []⟩
theorem k231Ok : Am.OneOk Tryz.prog [] k231 :=
  Am.one_of_run (orc := orc0) (N := 999) (R := []) mixed progOk (extOk _) orc0Ok (by kernel_rfl) (by kernel_rfl) (by kernel_rfl) (by kernel_rfl)
noncomputable def k232 : Am.Known := ⟨96, (.cons (.str ⟨35, 646307347162900784329207463202393888615434979877137147860092084526487897329676928032⟩) .nil), (.tup (.cons (.slice 64 0 3 2 false) (.cons (.int .i64 (.ofNat 0)) (.cons (.int .i64 (.ofNat 0)) .nil)))), [.cells 165 (.cons (.int .i32 (.ofNat 12449)) (.cons (.int .i32 (.ofNat 12538)) (.cons (.int .i32 (.ofNat 12540)) (.cons (.int .i32 (.ofNat 12540)) (.cons (.int .i32 (.ofNat 65382)) (.cons (.int .i32 (.ofNat 65437)) .nil))))))]⟩
theorem k232Ok : Am.OneOk Tryz.prog [] k232 :=
  Am.one_of_run (orc := orc0) (N := 999) (R := [103]) mixed progOk (extOk _) orc0Ok (by kernel_rfl) (by kernel_rfl) (by kernel_rfl) (by kernel_rfl)
noncomputable def k233 : Am.Known := ⟨93, (.cons (.str ⟨22, 31865395418162200646468038266090274653540499837838711⟩) (.cons (.int .u8 (.ofNat 35)) .nil)), (.int .i64 (.negSucc 0)), []⟩
theorem k233Ok : Am.OneOk Tryz.prog [] k233 :=
  Am.one_of_run (orc := orc0) (N := 999) (R := []) mixed progOk (extOk _) orc0Ok (by kernel_rfl) (by kernel_rfl) (by kernel_rfl) (by kernel_rfl)
noncomputable def k234 : Am.Known := ⟨93, (.cons (.str ⟨22, 31865395418162200646468038266090274653540499837838711⟩) (.cons (.int .u8 (.ofNat 59)) .nil)), (.int .i64 (.ofNat 14)), []⟩
theorem k234Ok : Am.OneOk Tryz.prog [] k234 :=
  Am.one_of_run (orc := orc0) (N := 999) (R := []) mixed progOk (extOk _) orc0Ok (by kernel_rfl) (by kernel_rfl) (by kernel_rfl) (by kernel_rfl)
noncomputable def k235 : Am.Known := ⟨96, (.cons (.str ⟨14, 1727426546974054847805948510421280⟩) .nil), (.tup (.cons (.slice 64 0 1 2 false) (.cons (.int .i64 (.ofNat 0)) (.cons (.int .i64 (.ofNat 0)) .nil)))), [.cells 165 (.cons (.int .i32 (.ofNat 1488)) (.cons (.int .i32 (.ofNat 1514)) .nil))]⟩
theorem k235Ok : Am.OneOk Tryz.prog [] k235 :=
  Am.one_of_run (orc := orc0) (N := 999) (R := [78]) mixed progOk (extOk _) orc0Ok (by kernel_rfl) (by kernel_rfl) (by kernel_rfl) (by kernel_rfl)
noncomputable def k236 : Am.Known := ⟨93, (.cons (.str ⟨197, 881684569191506948176507925224321212670630020064500166016324012680339360188844711546437381232706706424275027617500772924004940810228828212721601121553051754883680246897234503138281856678109551471426714214383087634287845641761971409102330288869007776686403090281317096610728238811985665409584488369099841897278353396837693518746600530489218735221972139630456935570412315705579723291608320872203682972431339382484772891797594089989067079273564524624433139967619794577738982770⟩) (.cons (.int .u8 (.ofNat 35)) .nil)), (.int .i64 (.negSucc 0)), []⟩
theorem k236Ok : Am.OneOk Tryz.prog [] k236 :=
  Am.one_of_run (orc := orc0) (N := 999) (R := []) mixed progOk (extOk _) orc0Ok (by kernel_rfl) (by kernel_rfl) (by kernel_rfl) (by kernel_rfl)
noncomputable def k237 : Am.Known := ⟨93, (.cons (.str ⟨197, 881684569191506948176507925224321212670630020064500166016324012680339360188844711546437381232706706424275027617500772924004940810228828212721601121553051754883680246897234503138281856678109551471426714214383087634287845641761971409102330288869007776686403090281317096610728238811985665409584488369099841897278353396837693518746600530489218735221972139630456935570412315705579723291608320872203682972431339382484772891797594089989067079273564524624433139967619794577738982770⟩) (.cons (.int .u8 (.ofNat 59)) .nil)), (.int .i64 (.ofNat 189)), []⟩
theorem k237Ok : Am.OneOk Tryz.prog [] k237 :=
  Am.one_of_run (orc := orc0) (N := 999) (R := []) mixed progOk (extOk _) orc0Ok (by kernel_rfl) (by kernel_rfl) (by kernel_rfl) (by kernel_rfl)
noncomputable def k238 : Am.Known := ⟨96, (.cons (.str ⟨189, 47796216268218894245224438495460505218962572958021264489542968480658919141169575152104251620225624674479285672752148981168228425996885036591051909308594642066181034718052065805636761978270963194748996472060092123182962989798759645643316497239030416317468770040657806539236801308391786112603058618461485915363589737586653143181002316750343043633986582086496280937947299497294284449764381664347368492016531186556293266229138881812374313162899450495499253280⟩) .nil), (.tup (.cons (.slice 64 0 15 2 false) (.cons (.int .i64 (.ofNat 0)) (.cons (.int .i64 (.ofNat 0)) .nil)))), [.cells 165 (.cons (.int .i32 (.ofNat 65)) (.cons (.int .i32 (.ofNat 90)) (.cons (.int .i32 (.ofNat 97)) (.cons (.int .i32 (.ofNat 122)) (.cons (.int .i32 (.ofNat 170)) (.cons (.int .i32 (.ofNat 170)) (.cons (.int .i32 (.ofNat 181)) (.cons (.int .i32 (.ofNat 181)) (.cons (.int .i32 (.ofNat 192)) (.cons (.int .i32 (.ofNat 214)) (.cons (.int .i32 (.ofNat 216)) (.cons (.int .i32 (.ofNat 246)) (.cons (.int .i32 (.ofNat 248)) (.cons (.int .i32 (.ofNat 687)) (.cons (.int .i32 (.ofNat 880)) (.cons (.int .i32 (.ofNat 883)) (.cons (.int .i32 (.ofNat 902)) (.cons (.int .i32 (.ofNat 902)) (.cons (.int .i32 (.ofNat 904)) (.cons (.int .i32 (.ofNat 1153)) (.cons (.int .i32 (.ofNat 1162)) (.cons (.int .i32 (.ofNat 1366)) (.cons (.int .i32 (.ofNat 1568)) (.cons (.int .i32 (.ofNat 1610)) (.cons (.int .i32 (.ofNat 7680)) (.cons (.int .i32 (.ofNat 8124)) (.cons (.int .i32 (.ofNat 44032)) (.cons (.int .i32 (.ofNat 55203)) (.cons (.int .i32 (.ofNat 64256)) (.cons (.int .i32 (.ofNat 64262)) .nil))))))))))))))))))))))))))))))]⟩
theorem k238Ok : Am.OneOk Tryz.prog [] k238 :=
  Am.one_of_run (orc := orc0) (N := 999) (R := [264]) mixed progOk (extOk _) orc0Ok (by kernel_rfl) (by kernel_rfl) (by kernel_rfl) (by kernel_rfl)
noncomputable def k239 : Am.Known := ⟨93, (.cons (.str ⟨14, 1727426540844551336170641284887653⟩) (.cons (.int .u8 (.ofNat 35)) .nil)), (.int .i64 (.negSucc 0)), []⟩
theorem k239Ok : Am.OneOk Tryz.prog [] k239 :=
  Am.one_of_run (orc := orc0) (N := 999) (R := []) mixed progOk (extOk _) orc0Ok (by kernel_rfl) (by kernel_rfl) (by kernel_rfl) (by kernel_rfl)
noncomputable def k240 : Am.Known := ⟨93, (.cons (.str ⟨14, 1727426540844551336170641284887653⟩) (.cons (.int .u8 (.ofNat 59)) .nil)), (.int .i64 (.ofNat 7)), []⟩
theorem k240Ok : Am.OneOk Tryz.prog [] k240 :=
  Am.one_of_run (orc := orc0) (N := 999) (R := []) mixed progOk (extOk _) orc0Ok (by kernel_rfl) (by kernel_rfl) (by kernel_rfl) (by kernel_rfl)
noncomputable def k241 : Am.Known := ⟨96, (.cons (.str ⟨7, 23972858987427616⟩) .nil), (.tup (.cons (.slice 64 0 1 2 false) (.cons (.int .i64 (.ofNat 0)) (.cons (.int .i64 (.ofNat 0)) .nil)))), [.cells 165 (.cons (.int .i32 (.ofNat 39)) (.cons (.int .i32 (.ofNat 39)) .nil))]⟩
theorem k241Ok : Am.OneOk Tryz.prog [] k241 :=
  Am.one_of_run (orc := orc0) (N := 999) (R := [77]) mixed progOk (extOk _) orc0Ok (by kernel_rfl) (by kernel_rfl) (by kernel_rfl) (by kernel_rfl)
noncomputable def k242 : Am.Known := ⟨93, (.cons (.str ⟨15, 442221194456181530227255501383691365⟩) (.cons (.int .u8 (.ofNat 35)) .nil)), (.int .i64 (.negSucc 0)), []⟩
theorem k242Ok : Am.OneOk Tryz.prog [] k242 :=
  Am.one_of_run (orc := orc0) (N := 999) (R := []) mixed progOk (extOk _) orc0Ok (by kernel_rfl) (by kernel_rfl) (by kernel_rfl) (by kernel_rfl)
noncomputable def k243 : Am.Known := ⟨93, (.cons (.str ⟨15, 442221194456181530227255501383691365⟩) (.cons (.int .u8 (.ofNat 59)) .nil)), (.int .i64 (.ofNat 7)), []⟩
theorem k243Ok : Am.OneOk Tryz.prog [] k243 :=
  Am.one_of_run (orc := orc0) (N := 999) (R := []) mixed progOk (extOk _) orc0Ok (by kernel_rfl) (by kernel_rfl) (by kernel_rfl) (by kernel_rfl)
noncomputable def k244 : Am.Known := ⟨96, (.cons (.str ⟨7, 23972858987426336⟩) .nil), (.tup (.cons (.slice 64 0 1 2 false) (.cons (.int .i64 (.ofNat 0)) (.cons (.int .i64 (.ofNat 0)) .nil)))), [.cells 165 (.cons (.int .i32 (.ofNat 34)) (.cons (.int .i32 (.ofNat 34)) .nil))]⟩
theorem k244Ok : Am.OneOk Tryz.prog [] k244 :=
  Am.one_of_run (orc := orc0) (N := 999) (R := [77]) mixed progOk (extOk _) orc0Ok (by kernel_rfl) (by kernel_rfl) (by kernel_rfl) (by kernel_rfl)
noncomputable def k245 : Am.Known := ⟨93, (.cons (.str ⟨32, 38522899136559251001869020367222784461000173260323798701840886774157990978932⟩) (.cons (.int .u8 (.ofNat 35)) .nil)), (.int .i64 (.negSucc 0)), []⟩
theorem k245Ok : Am.OneOk Tryz.prog [] k245 :=
  Am.one_of_run (orc := orc0) (N := 999) (R := []) mixed progOk (extOk _) orc0Ok (by kernel_rfl) (by kernel_rfl) (by kernel_rfl) (by kernel_rfl)
noncomputable def k246 : Am.Known := ⟨93, (.cons (.str ⟨32, 38522899136559251001869020367222784461000173260323798701840886774157990978932⟩) (.cons (.int .u8 (.ofNat 59)) .nil)), (.int .i64 (.ofNat 21)), []⟩
theorem k246Ok : Am.OneOk Tryz.prog [] k246 :=
  Am.one_of_run (orc := orc0) (N := 999) (R := []) mixed progOk (extOk _) orc0Ok (by kernel_rfl) (by kernel_rfl) (by kernel_rfl) (by kernel_rfl)
noncomputable def k247 : Am.Known := ⟨96, (.cons (.str ⟨21, 124474200410537430299940584012803905564054972872992⟩) .nil), (.tup (.cons (.slice 64 0 2 2 false) (.cons (.int .i64 (.ofNat 0)) (.cons (.int .i64 (.ofNat 0)) .nil)))), [.cells 165 (.cons (.int .i32 (.ofNat 46)) (.cons (.int .i32 (.ofNat 46)) (.cons (.int .i32 (.ofNat 8216)) (.cons (.int .i32 (.ofNat 8217)) .nil))))]⟩
theorem k247Ok : Am.OneOk Tryz.prog [] k247 :=
  Am.one_of_run (orc := orc0) (N := 999) (R := [98]) mixed progOk (extOk _) orc0Ok (by kernel_rfl) (by kernel_rfl) (by kernel_rfl) (by kernel_rfl)
noncomputable def k248 : Am.Known := ⟨93, (.cons (.str ⟨25, 534612619960446702596369228526970105700196800445869297263986⟩) (.cons (.int .u8 (.ofNat 35)) .nil)), (.int .i64 (.negSucc 0)), []⟩
theorem k248Ok : Am.OneOk Tryz.prog [] k248 :=
  Am.one_of_run (orc := orc0) (N := 999) (R := []) mixed progOk (extOk _) orc0Ok (by kernel_rfl) (by kernel_rfl) (by kernel_rfl) (by kernel_rfl)
noncomputable def k249 : Am.Known := ⟨93, (.cons (.str ⟨25, 534612619960446702596369228526970105700196800445869297263986⟩) (.cons (.int .u8 (.ofNat 59)) .nil)), (.int .i64 (.ofNat 14)), []⟩
theorem k249Ok : Am.OneOk Tryz.prog [] k249 :=
  Am.one_of_run (orc := orc0) (N := 999) (R := []) mixed progOk (extOk _) orc0Ok (by kernel_rfl) (by kernel_rfl) (by kernel_rfl) (by kernel_rfl)
noncomputable def k250 : Am.Known := ⟨96, (.cons (.str ⟨14, 1727426540849458177424549153486624⟩) .nil), (.tup (.cons (.slice 64 0 2 2 false) (.cons (.int .i64 (.ofNat 0)) (.cons (.int .i64 (.ofNat 0)) .nil)))), [.cells 165 (.cons (.int .i32 (.ofNat 58)) (.cons (.int .i32 (.ofNat 58)) (.cons (.int .i32 (.ofNat 183)) (.cons (.int .i32 (.ofNat 183)) .nil))))]⟩
theorem k250Ok : Am.OneOk Tryz.prog [] k250 :=
  Am.one_of_run (orc := orc0) (N := 999) (R := [89]) mixed progOk (extOk _) orc0Ok (by kernel_rfl) (by kernel_rfl) (by kernel_rfl) (by kernel_rfl)
noncomputable def k251 : Am.Known := ⟨93, (.cons (.str ⟨29, 2296143718752767339324365151240777487913907576998265127545095834203501⟩) (.cons (.int .u8 (.ofNat 35)) .nil)), (.int .i64 (.negSucc 0)), []⟩
theorem k251Ok : Am.OneOk Tryz.prog [] k251 :=
  Am.one_of_run (orc := orc0) (N := 999) (R := []) mixed progOk (extOk _) orc0Ok (by kernel_rfl) (by kernel_rfl) (by kernel_rfl) (by kernel_rfl)
noncomputable def k252 : Am.Known := ⟨93, (.cons (.str ⟨29, 2296143718752767339324365151240777487913907576998265127545095834203501⟩) (.cons (.int .u8 (.ofNat 59)) .nil)), (.int .i64 (.ofNat 21)), []⟩
theorem k252Ok : Am.OneOk Tryz.prog [] k252 :=
  Am.one_of_run (orc := orc0) (N := 999) (R := []) mixed progOk (extOk _) orc0Ok (by kernel_rfl) (by kernel_rfl) (by kernel_rfl) (by kernel_rfl)
noncomputable def k253 : Am.Known := ⟨96, (.cons (.str ⟨21, 124474200410534771843948395220667655666264859624224⟩) .nil), (.tup (.cons (.slice 64 0 3 2 false) (.cons (.int .i64 (.ofNat 0)) (.cons (.int .i64 (.ofNat 0)) .nil)))), [.cells 165 (.cons (.int .i32 (.ofNat 44)) (.cons (.int .i32 (.ofNat 44)) (.cons (.int .i32 (.ofNat 59)) (.cons (.int .i32 (.ofNat 59)) (.cons (.int .i32 (.ofNat 1644)) (.cons (.int .i32 (.ofNat 1644)) .nil))))))]⟩
theorem k253Ok : Am.OneOk Tryz.prog [] k253 :=
  Am.one_of_run (orc := orc0) (N := 999) (R := [101]) mixed progOk (extOk _) orc0Ok (by kernel_rfl) (by kernel_rfl) (by kernel_rfl) (by kernel_rfl)
noncomputable def k254 : Am.Known := ⟨93, (.cons (.str ⟨35, 646306999761890311727372200030707593620892115532166527907551812706387454142544570740⟩) (.cons (.int .u8 (.ofNat 35)) .nil)), (.int .i64 (.negSucc 0)), []⟩
theorem k254Ok : Am.OneOk Tryz.prog [] k254 :=
  Am.one_of_run (orc := orc0) (N := 999) (R := []) mixed progOk (extOk _) orc0Ok (by kernel_rfl) (by kernel_rfl) (by kernel_rfl) (by kernel_rfl)
noncomputable def k255 : Am.Known := ⟨93, (.cons (.str ⟨35, 646306999761890311727372200030707593620892115532166527907551812706387454142544570740⟩) (.cons (.int .u8 (.ofNat 59)) .nil)), (.int .i64 (.ofNat 28)), []⟩
theorem k255Ok : Am.OneOk Tryz.prog [] k255 :=
  Am.one_of_run (orc := orc0) (N := 999) (R := []) mixed progOk (extOk _) orc0Ok (by kernel_rfl) (by kernel_rfl) (by kernel_rfl) (by kernel_rfl)
noncomputable def k256 : Am.Known := ⟨96, (.cons (.str ⟨28, 8969311401400702373312326387981668807404424464016036820761976387872⟩) .nil), (.tup (.cons (.slice 64 0 2 2 false) (.cons (.int .i64 (.ofNat 0)) (.cons (.int .i64 (.ofNat 0)) .nil)))), [.cells 165 (.cons (.int .i32 (.ofNat 48)) (.cons (.int .i32 (.ofNat 57)) (.cons (.int .i32 (.ofNat 1632)) (.cons (.int .i32 (.ofNat 1641)) .nil))))]⟩
theorem k256Ok : Am.OneOk Tryz.prog [] k256 :=
  Am.one_of_run (orc := orc0) (N := 999) (R := [91]) mixed progOk (extOk _) orc0Ok (by kernel_rfl) (by kernel_rfl) (by kernel_rfl) (by kernel_rfl)
noncomputable def k257 : Am.Known := ⟨93, (.cons (.str ⟨19, 1899325567803338724192797612438505756314857335⟩) (.cons (.int .u8 (.ofNat 35)) .nil)), (.int .i64 (.negSucc 0)), []⟩
theorem k257Ok : Am.OneOk Tryz.prog [] k257 :=
  Am.one_of_run (orc := orc0) (N := 999) (R := []) mixed progOk (extOk _) orc0Ok (by kernel_rfl) (by kernel_rfl) (by kernel_rfl) (by kernel_rfl)
noncomputable def k258 : Am.Known := ⟨93, (.cons (.str ⟨19, 1899325567803338724192797612438505756314857335⟩) (.cons (.int .u8 (.ofNat 59)) .nil)), (.int .i64 (.ofNat 14)), []⟩
theorem k258Ok : Am.OneOk Tryz.prog [] k258 :=
  Am.one_of_run (orc := orc0) (N := 999) (R := []) mixed progOk (extOk _) orc0Ok (by kernel_rfl) (by kernel_rfl) (by kernel_rfl) (by kernel_rfl)
end Go.Proofs.YtfmnninijakknaaGreatDoor.searchPieces
