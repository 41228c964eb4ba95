/- SearchNil's closed run: calls whose results are known. -/
import Derived.Test.YtofmmjfbmiinoabGreatDoorBase
namespace Go.Proofs.YtofmmjfbmiinoabGreatDoor.searchNil
noncomputable def k235 : Am.Known := ⟨117, (.cons (.str ⟨14, 1727426546974054847805948510421280⟩) .nil), (.tup (.cons (.slice 64 0 1 2 false) (.cons (.int .i64 (.ofNat 0)) (.cons (.int .i64 (.ofNat 0)) .nil)))), [.cells 189 (.cons (.int .i32 (.ofNat 1488)) (.cons (.int .i32 (.ofNat 1514)) .nil))]⟩
theorem k235Ok : Am.OneOk Tryz.prog [] k235 :=
  Am.one_of_run (orc := orc0) (N := 999) (R := [78]) mixed progOk (extOk _) orc0Ok (by kernel_rfl) (by kernel_rfl) (by kernel_rfl) (by kernel_rfl)
noncomputable def k236 : Am.Known := ⟨114, (.cons (.str ⟨197, 881684569191506948176507925224321212670630020064500166016324012680339360188844711546437381232706706424275027617500772924004940810228828212721601121553051754883680246897234503138281856678109551471426714214383087634287845641761971409102330288869007776686403090281317096610728238811985665409584488369099841897278353396837693518746600530489218735221972139630456935570412315705579723291608320872203682972431339382484772891797594089989067079273564524624433139967619794577738982770⟩) (.cons (.int .u8 (.ofNat 35)) .nil)), (.int .i64 (.negSucc 0)), []⟩
theorem k236Ok : Am.OneOk Tryz.prog [] k236 :=
  Am.one_of_run (orc := orc0) (N := 999) (R := []) mixed progOk (extOk _) orc0Ok (by kernel_rfl) (by kernel_rfl) (by kernel_rfl) (by kernel_rfl)
noncomputable def k237 : Am.Known := ⟨114, (.cons (.str ⟨197, 881684569191506948176507925224321212670630020064500166016324012680339360188844711546437381232706706424275027617500772924004940810228828212721601121553051754883680246897234503138281856678109551471426714214383087634287845641761971409102330288869007776686403090281317096610728238811985665409584488369099841897278353396837693518746600530489218735221972139630456935570412315705579723291608320872203682972431339382484772891797594089989067079273564524624433139967619794577738982770⟩) (.cons (.int .u8 (.ofNat 59)) .nil)), (.int .i64 (.ofNat 189)), []⟩
theorem k237Ok : Am.OneOk Tryz.prog [] k237 :=
  Am.one_of_run (orc := orc0) (N := 999) (R := []) mixed progOk (extOk _) orc0Ok (by kernel_rfl) (by kernel_rfl) (by kernel_rfl) (by kernel_rfl)
noncomputable def k238 : Am.Known := ⟨117, (.cons (.str ⟨189, 47796216268218894245224438495460505218962572958021264489542968480658919141169575152104251620225624674479285672752148981168228425996885036591051909308594642066181034718052065805636761978270963194748996472060092123182962989798759645643316497239030416317468770040657806539236801308391786112603058618461485915363589737586653143181002316750343043633986582086496280937947299497294284449764381664347368492016531186556293266229138881812374313162899450495499253280⟩) .nil), (.tup (.cons (.slice 64 0 15 2 false) (.cons (.int .i64 (.ofNat 0)) (.cons (.int .i64 (.ofNat 0)) .nil)))), [.cells 189 (.cons (.int .i32 (.ofNat 65)) (.cons (.int .i32 (.ofNat 90)) (.cons (.int .i32 (.ofNat 97)) (.cons (.int .i32 (.ofNat 122)) (.cons (.int .i32 (.ofNat 170)) (.cons (.int .i32 (.ofNat 170)) (.cons (.int .i32 (.ofNat 181)) (.cons (.int .i32 (.ofNat 181)) (.cons (.int .i32 (.ofNat 192)) (.cons (.int .i32 (.ofNat 214)) (.cons (.int .i32 (.ofNat 216)) (.cons (.int .i32 (.ofNat 246)) (.cons (.int .i32 (.ofNat 248)) (.cons (.int .i32 (.ofNat 687)) (.cons (.int .i32 (.ofNat 880)) (.cons (.int .i32 (.ofNat 883)) (.cons (.int .i32 (.ofNat 902)) (.cons (.int .i32 (.ofNat 902)) (.cons (.int .i32 (.ofNat 904)) (.cons (.int .i32 (.ofNat 1153)) (.cons (.int .i32 (.ofNat 1162)) (.cons (.int .i32 (.ofNat 1366)) (.cons (.int .i32 (.ofNat 1568)) (.cons (.int .i32 (.ofNat 1610)) (.cons (.int .i32 (.ofNat 7680)) (.cons (.int .i32 (.ofNat 8124)) (.cons (.int .i32 (.ofNat 44032)) (.cons (.int .i32 (.ofNat 55203)) (.cons (.int .i32 (.ofNat 64256)) (.cons (.int .i32 (.ofNat 64262)) .nil))))))))))))))))))))))))))))))]⟩
theorem k238Ok : Am.OneOk Tryz.prog [] k238 :=
  Am.one_of_run (orc := orc0) (N := 999) (R := [264]) mixed progOk (extOk _) orc0Ok (by kernel_rfl) (by kernel_rfl) (by kernel_rfl) (by kernel_rfl)
noncomputable def k239 : Am.Known := ⟨114, (.cons (.str ⟨14, 1727426540844551336170641284887653⟩) (.cons (.int .u8 (.ofNat 35)) .nil)), (.int .i64 (.negSucc 0)), []⟩
theorem k239Ok : Am.OneOk Tryz.prog [] k239 :=
  Am.one_of_run (orc := orc0) (N := 999) (R := []) mixed progOk (extOk _) orc0Ok (by kernel_rfl) (by kernel_rfl) (by kernel_rfl) (by kernel_rfl)
noncomputable def k240 : Am.Known := ⟨114, (.cons (.str ⟨14, 1727426540844551336170641284887653⟩) (.cons (.int .u8 (.ofNat 59)) .nil)), (.int .i64 (.ofNat 7)), []⟩
theorem k240Ok : Am.OneOk Tryz.prog [] k240 :=
  Am.one_of_run (orc := orc0) (N := 999) (R := []) mixed progOk (extOk _) orc0Ok (by kernel_rfl) (by kernel_rfl) (by kernel_rfl) (by kernel_rfl)
noncomputable def k241 : Am.Known := ⟨117, (.cons (.str ⟨7, 23972858987427616⟩) .nil), (.tup (.cons (.slice 64 0 1 2 false) (.cons (.int .i64 (.ofNat 0)) (.cons (.int .i64 (.ofNat 0)) .nil)))), [.cells 189 (.cons (.int .i32 (.ofNat 39)) (.cons (.int .i32 (.ofNat 39)) .nil))]⟩
theorem k241Ok : Am.OneOk Tryz.prog [] k241 :=
  Am.one_of_run (orc := orc0) (N := 999) (R := [77]) mixed progOk (extOk _) orc0Ok (by kernel_rfl) (by kernel_rfl) (by kernel_rfl) (by kernel_rfl)
noncomputable def k242 : Am.Known := ⟨114, (.cons (.str ⟨15, 442221194456181530227255501383691365⟩) (.cons (.int .u8 (.ofNat 35)) .nil)), (.int .i64 (.negSucc 0)), []⟩
theorem k242Ok : Am.OneOk Tryz.prog [] k242 :=
  Am.one_of_run (orc := orc0) (N := 999) (R := []) mixed progOk (extOk _) orc0Ok (by kernel_rfl) (by kernel_rfl) (by kernel_rfl) (by kernel_rfl)
noncomputable def k243 : Am.Known := ⟨114, (.cons (.str ⟨15, 442221194456181530227255501383691365⟩) (.cons (.int .u8 (.ofNat 59)) .nil)), (.int .i64 (.ofNat 7)), []⟩
theorem k243Ok : Am.OneOk Tryz.prog [] k243 :=
  Am.one_of_run (orc := orc0) (N := 999) (R := []) mixed progOk (extOk _) orc0Ok (by kernel_rfl) (by kernel_rfl) (by kernel_rfl) (by kernel_rfl)
noncomputable def k244 : Am.Known := ⟨117, (.cons (.str ⟨7, 23972858987426336⟩) .nil), (.tup (.cons (.slice 64 0 1 2 false) (.cons (.int .i64 (.ofNat 0)) (.cons (.int .i64 (.ofNat 0)) .nil)))), [.cells 189 (.cons (.int .i32 (.ofNat 34)) (.cons (.int .i32 (.ofNat 34)) .nil))]⟩
theorem k244Ok : Am.OneOk Tryz.prog [] k244 :=
  Am.one_of_run (orc := orc0) (N := 999) (R := [77]) mixed progOk (extOk _) orc0Ok (by kernel_rfl) (by kernel_rfl) (by kernel_rfl) (by kernel_rfl)
noncomputable def k245 : Am.Known := ⟨114, (.cons (.str ⟨32, 38522899136559251001869020367222784461000173260323798701840886774157990978932⟩) (.cons (.int .u8 (.ofNat 35)) .nil)), (.int .i64 (.negSucc 0)), []⟩
theorem k245Ok : Am.OneOk Tryz.prog [] k245 :=
  Am.one_of_run (orc := orc0) (N := 999) (R := []) mixed progOk (extOk _) orc0Ok (by kernel_rfl) (by kernel_rfl) (by kernel_rfl) (by kernel_rfl)
noncomputable def k246 : Am.Known := ⟨114, (.cons (.str ⟨32, 38522899136559251001869020367222784461000173260323798701840886774157990978932⟩) (.cons (.int .u8 (.ofNat 59)) .nil)), (.int .i64 (.ofNat 21)), []⟩
theorem k246Ok : Am.OneOk Tryz.prog [] k246 :=
  Am.one_of_run (orc := orc0) (N := 999) (R := []) mixed progOk (extOk _) orc0Ok (by kernel_rfl) (by kernel_rfl) (by kernel_rfl) (by kernel_rfl)
noncomputable def k247 : Am.Known := ⟨117, (.cons (.str ⟨21, 124474200410537430299940584012803905564054972872992⟩) .nil), (.tup (.cons (.slice 64 0 2 2 false) (.cons (.int .i64 (.ofNat 0)) (.cons (.int .i64 (.ofNat 0)) .nil)))), [.cells 189 (.cons (.int .i32 (.ofNat 46)) (.cons (.int .i32 (.ofNat 46)) (.cons (.int .i32 (.ofNat 8216)) (.cons (.int .i32 (.ofNat 8217)) .nil))))]⟩
theorem k247Ok : Am.OneOk Tryz.prog [] k247 :=
  Am.one_of_run (orc := orc0) (N := 999) (R := [98]) mixed progOk (extOk _) orc0Ok (by kernel_rfl) (by kernel_rfl) (by kernel_rfl) (by kernel_rfl)
noncomputable def k248 : Am.Known := ⟨114, (.cons (.str ⟨25, 534612619960446702596369228526970105700196800445869297263986⟩) (.cons (.int .u8 (.ofNat 35)) .nil)), (.int .i64 (.negSucc 0)), []⟩
theorem k248Ok : Am.OneOk Tryz.prog [] k248 :=
  Am.one_of_run (orc := orc0) (N := 999) (R := []) mixed progOk (extOk _) orc0Ok (by kernel_rfl) (by kernel_rfl) (by kernel_rfl) (by kernel_rfl)
noncomputable def k249 : Am.Known := ⟨114, (.cons (.str ⟨25, 534612619960446702596369228526970105700196800445869297263986⟩) (.cons (.int .u8 (.ofNat 59)) .nil)), (.int .i64 (.ofNat 14)), []⟩
theorem k249Ok : Am.OneOk Tryz.prog [] k249 :=
  Am.one_of_run (orc := orc0) (N := 999) (R := []) mixed progOk (extOk _) orc0Ok (by kernel_rfl) (by kernel_rfl) (by kernel_rfl) (by kernel_rfl)
noncomputable def k250 : Am.Known := ⟨117, (.cons (.str ⟨14, 1727426540849458177424549153486624⟩) .nil), (.tup (.cons (.slice 64 0 2 2 false) (.cons (.int .i64 (.ofNat 0)) (.cons (.int .i64 (.ofNat 0)) .nil)))), [.cells 189 (.cons (.int .i32 (.ofNat 58)) (.cons (.int .i32 (.ofNat 58)) (.cons (.int .i32 (.ofNat 183)) (.cons (.int .i32 (.ofNat 183)) .nil))))]⟩
theorem k250Ok : Am.OneOk Tryz.prog [] k250 :=
  Am.one_of_run (orc := orc0) (N := 999) (R := [89]) mixed progOk (extOk _) orc0Ok (by kernel_rfl) (by kernel_rfl) (by kernel_rfl) (by kernel_rfl)
noncomputable def k251 : Am.Known := ⟨114, (.cons (.str ⟨29, 2296143718752767339324365151240777487913907576998265127545095834203501⟩) (.cons (.int .u8 (.ofNat 35)) .nil)), (.int .i64 (.negSucc 0)), []⟩
theorem k251Ok : Am.OneOk Tryz.prog [] k251 :=
  Am.one_of_run (orc := orc0) (N := 999) (R := []) mixed progOk (extOk _) orc0Ok (by kernel_rfl) (by kernel_rfl) (by kernel_rfl) (by kernel_rfl)
noncomputable def k252 : Am.Known := ⟨114, (.cons (.str ⟨29, 2296143718752767339324365151240777487913907576998265127545095834203501⟩) (.cons (.int .u8 (.ofNat 59)) .nil)), (.int .i64 (.ofNat 21)), []⟩
theorem k252Ok : Am.OneOk Tryz.prog [] k252 :=
  Am.one_of_run (orc := orc0) (N := 999) (R := []) mixed progOk (extOk _) orc0Ok (by kernel_rfl) (by kernel_rfl) (by kernel_rfl) (by kernel_rfl)
noncomputable def k253 : Am.Known := ⟨117, (.cons (.str ⟨21, 124474200410534771843948395220667655666264859624224⟩) .nil), (.tup (.cons (.slice 64 0 3 2 false) (.cons (.int .i64 (.ofNat 0)) (.cons (.int .i64 (.ofNat 0)) .nil)))), [.cells 189 (.cons (.int .i32 (.ofNat 44)) (.cons (.int .i32 (.ofNat 44)) (.cons (.int .i32 (.ofNat 59)) (.cons (.int .i32 (.ofNat 59)) (.cons (.int .i32 (.ofNat 1644)) (.cons (.int .i32 (.ofNat 1644)) .nil))))))]⟩
theorem k253Ok : Am.OneOk Tryz.prog [] k253 :=
  Am.one_of_run (orc := orc0) (N := 999) (R := [101]) mixed progOk (extOk _) orc0Ok (by kernel_rfl) (by kernel_rfl) (by kernel_rfl) (by kernel_rfl)
noncomputable def k254 : Am.Known := ⟨114, (.cons (.str ⟨35, 646306999761890311727372200030707593620892115532166527907551812706387454142544570740⟩) (.cons (.int .u8 (.ofNat 35)) .nil)), (.int .i64 (.negSucc 0)), []⟩
theorem k254Ok : Am.OneOk Tryz.prog [] k254 :=
  Am.one_of_run (orc := orc0) (N := 999) (R := []) mixed progOk (extOk _) orc0Ok (by kernel_rfl) (by kernel_rfl) (by kernel_rfl) (by kernel_rfl)
noncomputable def k255 : Am.Known := ⟨114, (.cons (.str ⟨35, 646306999761890311727372200030707593620892115532166527907551812706387454142544570740⟩) (.cons (.int .u8 (.ofNat 59)) .nil)), (.int .i64 (.ofNat 28)), []⟩
theorem k255Ok : Am.OneOk Tryz.prog [] k255 :=
  Am.one_of_run (orc := orc0) (N := 999) (R := []) mixed progOk (extOk _) orc0Ok (by kernel_rfl) (by kernel_rfl) (by kernel_rfl) (by kernel_rfl)
noncomputable def k256 : Am.Known := ⟨117, (.cons (.str ⟨28, 8969311401400702373312326387981668807404424464016036820761976387872⟩) .nil), (.tup (.cons (.slice 64 0 2 2 false) (.cons (.int .i64 (.ofNat 0)) (.cons (.int .i64 (.ofNat 0)) .nil)))), [.cells 189 (.cons (.int .i32 (.ofNat 48)) (.cons (.int .i32 (.ofNat 57)) (.cons (.int .i32 (.ofNat 1632)) (.cons (.int .i32 (.ofNat 1641)) .nil))))]⟩
theorem k256Ok : Am.OneOk Tryz.prog [] k256 :=
  Am.one_of_run (orc := orc0) (N := 999) (R := [91]) mixed progOk (extOk _) orc0Ok (by kernel_rfl) (by kernel_rfl) (by kernel_rfl) (by kernel_rfl)
noncomputable def k257 : Am.Known := ⟨114, (.cons (.str ⟨19, 1899325567803338724192797612438505756314857335⟩) (.cons (.int .u8 (.ofNat 35)) .nil)), (.int .i64 (.negSucc 0)), []⟩
theorem k257Ok : Am.OneOk Tryz.prog [] k257 :=
  Am.one_of_run (orc := orc0) (N := 999) (R := []) mixed progOk (extOk _) orc0Ok (by kernel_rfl) (by kernel_rfl) (by kernel_rfl) (by kernel_rfl)
noncomputable def k258 : Am.Known := ⟨114, (.cons (.str ⟨19, 1899325567803338724192797612438505756314857335⟩) (.cons (.int .u8 (.ofNat 59)) .nil)), (.int .i64 (.ofNat 14)), []⟩
theorem k258Ok : Am.OneOk Tryz.prog [] k258 :=
  Am.one_of_run (orc := orc0) (N := 999) (R := []) mixed progOk (extOk _) orc0Ok (by kernel_rfl) (by kernel_rfl) (by kernel_rfl) (by kernel_rfl)
noncomputable def k259 : Am.Known := ⟨117, (.cons (.str ⟨14, 1727426540858995144110665580627488⟩) .nil), (.tup (.cons (.slice 64 0 2 2 false) (.cons (.int .i64 (.ofNat 0)) (.cons (.int .i64 (.ofNat 0)) .nil)))), [.cells 189 (.cons (.int .i32 (.ofNat 95)) (.cons (.int .i32 (.ofNat 95)) (.cons (.int .i32 (.ofNat 8255)) (.cons (.int .i32 (.ofNat 8255)) .nil))))]⟩
theorem k259Ok : Am.OneOk Tryz.prog [] k259 :=
  Am.one_of_run (orc := orc0) (N := 999) (R := [89]) mixed progOk (extOk _) orc0Ok (by kernel_rfl) (by kernel_rfl) (by kernel_rfl) (by kernel_rfl)
noncomputable def k260 : Am.Known := ⟨114, (.cons (.str ⟨35, 646306999760123114183290356544478532603697536029104660685782261552694891962693673829⟩) (.cons (.int .u8 (.ofNat 35)) .nil)), (.int .i64 (.negSucc 0)), []⟩
theorem k260Ok : Am.OneOk Tryz.prog [] k260 :=
  Am.one_of_run (orc := orc0) (N := 999) (R := []) mixed progOk (extOk _) orc0Ok (by kernel_rfl) (by kernel_rfl) (by kernel_rfl) (by kernel_rfl)
noncomputable def k261 : Am.Known := ⟨114, (.cons (.str ⟨35, 646306999760123114183290356544478532603697536029104660685782261552694891962693673829⟩) (.cons (.int .u8 (.ofNat 59)) .nil)), (.int .i64 (.ofNat 28)), []⟩
theorem k261Ok : Am.OneOk Tryz.prog [] k261 :=
  Am.one_of_run (orc := orc0) (N := 999) (R := []) mixed progOk (extOk _) orc0Ok (by kernel_rfl) (by kernel_rfl) (by kernel_rfl) (by kernel_rfl)
noncomputable def k262 : Am.Known := ⟨117, (.cons (.str ⟨28, 8969311401376177580781067729460677881488072316477975508078077947936⟩) .nil), (.tup (.cons (.slice 64 0 3 2 false) (.cons (.int .i64 (.ofNat 0)) (.cons (.int .i64 (.ofNat 0)) .nil)))), [.cells 189 (.cons (.int .i32 (.ofNat 32)) (.cons (.int .i32 (.ofNat 32)) (.cons (.int .i32 (.ofNat 8192)) (.cons (.int .i32 (.ofNat 8198)) (.cons (.int .i32 (.ofNat 12288)) (.cons (.int .i32 (.ofNat 12288)) .nil))))))]⟩
theorem k262Ok : Am.OneOk Tryz.prog [] k262 :=
  Am.one_of_run (orc := orc0) (N := 999) (R := [102]) mixed progOk (extOk _) orc0Ok (by kernel_rfl) (by kernel_rfl) (by kernel_rfl) (by kernel_rfl)
noncomputable def k263 : Am.Known := ⟨114, (.cons (.str ⟨82, 99475751603000794545767920846856894700094723487872261299214413594918736937155799732239999576473798641092105641452387944600226005076279816289541771190086097831010643155328645618707772558079685124980⟩) (.cons (.int .u8 (.ofNat 35)) .nil)), (.int .i64 (.negSucc 0)), []⟩
theorem k263Ok : Am.OneOk Tryz.prog [] k263 :=
  Am.one_of_run (orc := orc0) (N := 999) (R := []) mixed progOk (extOk _) orc0Ok (by kernel_rfl) (by kernel_rfl) (by kernel_rfl) (by kernel_rfl)
noncomputable def k264 : Am.Known := ⟨114, (.cons (.str ⟨82, 99475751603000794545767920846856894700094723487872261299214413594918736937155799732239999576473798641092105641452387944600226005076279816289541771190086097831010643155328645618707772558079685124980⟩) (.cons (.int .u8 (.ofNat 59)) .nil)), (.int .i64 (.ofNat 76)), []⟩
theorem k264Ok : Am.OneOk Tryz.prog [] k264 :=
  Am.one_of_run (orc := orc0) (N := 999) (R := []) mixed progOk (extOk _) orc0Ok (by kernel_rfl) (by kernel_rfl) (by kernel_rfl) (by kernel_rfl)
noncomputable def k265 : Am.Known := ⟨117, (.cons (.str ⟨76, 353408863428941780234168564500609813805790521314066628019696784672443133022866134255366431121365872915490433717353326218103241292127875596980650283250064439609909936576061701951473184⟩) .nil), (.tup (.cons (.slice 64 0 6 2 false) (.cons (.int .i64 (.ofNat 0)) (.cons (.int .i64 (.ofNat 0)) .nil)))), [.cells 189 (.cons (.int .i32 (.ofNat 169)) (.cons (.int .i32 (.ofNat 169)) (.cons (.int .i32 (.ofNat 174)) (.cons (.int .i32 (.ofNat 174)) (.cons (.int .i32 (.ofNat 9728)) (.cons (.int .i32 (.ofNat 10175)) (.cons (.int .i32 (.ofNat 127744)) (.cons (.int .i32 (.ofNat 127994)) (.cons (.int .i32 (.ofNat 128000)) (.cons (.int .i32 (.ofNat 128591)) (.cons (.int .i32 (.ofNat 128640)) (.cons (.int .i32 (.ofNat 128767)) .nil))))))))))))]⟩
theorem k265Ok : Am.OneOk Tryz.prog [] k265 :=
  Am.one_of_run (orc := orc0) (N := 999) (R := [141]) mixed progOk (extOk _) orc0Ok (by kernel_rfl) (by kernel_rfl) (by kernel_rfl) (by kernel_rfl)
end Go.Proofs.YtofmmjfbmiinoabGreatDoor.searchNil
