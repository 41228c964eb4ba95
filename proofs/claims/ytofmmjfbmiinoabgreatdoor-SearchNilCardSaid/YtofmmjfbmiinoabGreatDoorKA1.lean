/- SearchNil's closed run: calls whose results are known. -/
import Derived.Test.YtofmmjfbmiinoabGreatDoorBase
namespace Go.Proofs.YtofmmjfbmiinoabGreatDoor.searchNil
noncomputable def k144 : Am.Known := ⟨64, (.cons (.str ⟨4, 1717710897⟩) (.cons (.int .i64 (.ofNat 16)) .nil)), (.int .i32 (.ofNat 64257)), []⟩
theorem k144Ok : Am.OneOk Tryz.prog [] k144 :=
  Am.one_of_run (orc := orc0) (N := 999) (R := []) mixed progOk (extOk _) orc0Ok (by kernel_rfl) (by kernel_rfl) (by kernel_rfl) (by kernel_rfl)
noncomputable def k150 : Am.Known := ⟨64, (.cons (.str ⟨4, 1717710898⟩) (.cons (.int .i64 (.ofNat 16)) .nil)), (.int .i32 (.ofNat 64258)), []⟩
theorem k150Ok : Am.OneOk Tryz.prog [] k150 :=
  Am.one_of_run (orc := orc0) (N := 999) (R := []) mixed progOk (extOk _) orc0Ok (by kernel_rfl) (by kernel_rfl) (by kernel_rfl) (by kernel_rfl)
noncomputable def k153 : Am.Known := ⟨64, (.cons (.str ⟨2, 13411⟩) (.cons (.int .i64 (.ofNat 16)) .nil)), (.int .i32 (.ofNat 76)), []⟩
theorem k153Ok : Am.OneOk Tryz.prog [] k153 :=
  Am.one_of_run (orc := orc0) (N := 999) (R := []) mixed progOk (extOk _) orc0Ok (by kernel_rfl) (by kernel_rfl) (by kernel_rfl) (by kernel_rfl)
noncomputable def k155 : Am.Known := ⟨64, (.cons (.str ⟨2, 13923⟩) (.cons (.int .i64 (.ofNat 16)) .nil)), (.int .i32 (.ofNat 108)), []⟩
theorem k155Ok : Am.OneOk Tryz.prog [] k155 :=
  Am.one_of_run (orc := orc0) (N := 999) (R := []) mixed progOk (extOk _) orc0Ok (by kernel_rfl) (by kernel_rfl) (by kernel_rfl) (by kernel_rfl)
noncomputable def k158 : Am.Known := ⟨64, (.cons (.str ⟨4, 1717710899⟩) (.cons (.int .i64 (.ofNat 16)) .nil)), (.int .i32 (.ofNat 64259)), []⟩
theorem k158Ok : Am.OneOk Tryz.prog [] k158 :=
  Am.one_of_run (orc := orc0) (N := 999) (R := []) mixed progOk (extOk _) orc0Ok (by kernel_rfl) (by kernel_rfl) (by kernel_rfl) (by kernel_rfl)
noncomputable def k164 : Am.Known := ⟨114, (.cons (.str ⟨11, 102962645342072630576956242⟩) (.cons (.int .u8 (.ofNat 35)) .nil)), (.int .i64 (.negSucc 0)), []⟩
theorem k164Ok : Am.OneOk Tryz.prog [] k164 :=
  Am.one_of_run (orc := orc0) (N := 999) (R := []) mixed progOk (extOk _) orc0Ok (by kernel_rfl) (by kernel_rfl) (by kernel_rfl) (by kernel_rfl)
noncomputable def k165 : Am.Known := ⟨114, (.cons (.str ⟨11, 102962645342072630576956242⟩) (.cons (.int .u8 (.ofNat 59)) .nil)), (.int .i64 (.ofNat 7)), []⟩
theorem k165Ok : Am.OneOk Tryz.prog [] k165 :=
  Am.one_of_run (orc := orc0) (N := 999) (R := []) mixed progOk (extOk _) orc0Ok (by kernel_rfl) (by kernel_rfl) (by kernel_rfl) (by kernel_rfl)
noncomputable def k166 : Am.Known := ⟨117, (.cons (.str ⟨7, 23972858987299872⟩) .nil), (.tup (.cons (.slice 64 0 1 2 false) (.cons (.int .i64 (.ofNat 0)) (.cons (.int .i64 (.ofNat 0)) .nil)))), [.cells 189 (.cons (.int .i32 (.ofNat 13)) (.cons (.int .i32 (.ofNat 13)) .nil))]⟩
theorem k166Ok : Am.OneOk Tryz.prog [] k166 :=
  Am.one_of_run (orc := orc0) (N := 999) (R := [77]) mixed progOk (extOk _) orc0Ok (by kernel_rfl) (by kernel_rfl) (by kernel_rfl) (by kernel_rfl)
noncomputable def k167 : Am.Known := ⟨114, (.cons (.str ⟨11, 102962645342069332042075206⟩) (.cons (.int .u8 (.ofNat 35)) .nil)), (.int .i64 (.negSucc 0)), []⟩
theorem k167Ok : Am.OneOk Tryz.prog [] k167 :=
  Am.one_of_run (orc := orc0) (N := 999) (R := []) mixed progOk (extOk _) orc0Ok (by kernel_rfl) (by kernel_rfl) (by kernel_rfl) (by kernel_rfl)
noncomputable def k168 : Am.Known := ⟨114, (.cons (.str ⟨11, 102962645342069332042075206⟩) (.cons (.int .u8 (.ofNat 59)) .nil)), (.int .i64 (.ofNat 7)), []⟩
theorem k168Ok : Am.OneOk Tryz.prog [] k168 :=
  Am.one_of_run (orc := orc0) (N := 999) (R := []) mixed progOk (extOk _) orc0Ok (by kernel_rfl) (by kernel_rfl) (by kernel_rfl) (by kernel_rfl)
noncomputable def k169 : Am.Known := ⟨117, (.cons (.str ⟨7, 23972858987299104⟩) .nil), (.tup (.cons (.slice 64 0 1 2 false) (.cons (.int .i64 (.ofNat 0)) (.cons (.int .i64 (.ofNat 0)) .nil)))), [.cells 189 (.cons (.int .i32 (.ofNat 10)) (.cons (.int .i32 (.ofNat 10)) .nil))]⟩
theorem k169Ok : Am.OneOk Tryz.prog [] k169 :=
  Am.one_of_run (orc := orc0) (N := 999) (R := [77]) mixed progOk (extOk _) orc0Ok (by kernel_rfl) (by kernel_rfl) (by kernel_rfl) (by kernel_rfl)
noncomputable def k170 : Am.Known := ⟨114, (.cons (.str ⟨100, 2218383389827535999682072645889753502715423754961004483166999509250562126192633762705760822490343369359523707118587249356008446815588166199628637170791131840540284790014827761410138708866286031978678543604298815074230553509586412489038524268⟩) (.cons (.int .u8 (.ofNat 35)) .nil)), (.int .i64 (.negSucc 0)), []⟩
theorem k170Ok : Am.OneOk Tryz.prog [] k170 :=
  Am.one_of_run (orc := orc0) (N := 999) (R := []) mixed progOk (extOk _) orc0Ok (by kernel_rfl) (by kernel_rfl) (by kernel_rfl) (by kernel_rfl)
noncomputable def k171 : Am.Known := ⟨114, (.cons (.str ⟨100, 2218383389827535999682072645889753502715423754961004483166999509250562126192633762705760822490343369359523707118587249356008446815588166199628637170791131840540284790014827761410138708866286031978678543604298815074230553509586412489038524268⟩) (.cons (.int .u8 (.ofNat 59)) .nil)), (.int .i64 (.ofNat 91)), []⟩
theorem k171Ok : Am.OneOk Tryz.prog [] k171 :=
  Am.one_of_run (orc := orc0) (N := 999) (R := []) mixed progOk (extOk _) orc0Ok (by kernel_rfl) (by kernel_rfl) (by kernel_rfl) (by kernel_rfl)
noncomputable def k172 : Am.Known := ⟨117, (.cons (.str ⟨91, 469760955206400821943993528307284645140972812491659484381873977297474422641988878546799363655160011957918869301844451576508380443265989536029770274098269863822124765069717698110307370455107038306097130752513103649719840⟩) .nil), (.tup (.cons (.slice 64 0 8 2 false) (.cons (.int .i64 (.ofNat 0)) (.cons (.int .i64 (.ofNat 0)) .nil)))), [.cells 189 (.cons (.int .i32 (.ofNat 0)) (.cons (.int .i32 (.ofNat 9)) (.cons (.int .i32 (.ofNat 11)) (.cons (.int .i32 (.ofNat 12)) (.cons (.int .i32 (.ofNat 14)) (.cons (.int .i32 (.ofNat 31)) (.cons (.int .i32 (.ofNat 127)) (.cons (.int .i32 (.ofNat 159)) (.cons (.int .i32 (.ofNat 173)) (.cons (.int .i32 (.ofNat 173)) (.cons (.int .i32 (.ofNat 8203)) (.cons (.int .i32 (.ofNat 8203)) (.cons (.int .i32 (.ofNat 8232)) (.cons (.int .i32 (.ofNat 8233)) (.cons (.int .i32 (.ofNat 65279)) (.cons (.int .i32 (.ofNat 65279)) .nil))))))))))))))))]⟩
theorem k172Ok : Am.OneOk Tryz.prog [] k172 :=
  Am.one_of_run (orc := orc0) (N := 999) (R := [166]) mixed progOk (extOk _) orc0Ok (by kernel_rfl) (by kernel_rfl) (by kernel_rfl) (by kernel_rfl)
noncomputable def k173 : Am.Known := ⟨114, (.cons (.str ⟨173, 140460455828292047064114065889635674980927719953707902839235398779582239131983230566235076690419991610576496175327210257911824660433377352989201720536096093583825597717627264814574385041887878811032054317214109010827443510864816183881870269510436020537031983994900186210581690089765075388829001525549120998343012266261460973450087498736612376586148428888485490437327969571823250200948682770573900705312509156840009316⟩) (.cons (.int .u8 (.ofNat 35)) .nil)), (.int .i64 (.negSucc 0)), []⟩
theorem k173Ok : Am.OneOk Tryz.prog [] k173 :=
  Am.one_of_run (orc := orc0) (N := 999) (R := []) mixed progOk (extOk _) orc0Ok (by kernel_rfl) (by kernel_rfl) (by kernel_rfl) (by kernel_rfl)
noncomputable def k174 : Am.Known := ⟨114, (.cons (.str ⟨173, 140460455828292047064114065889635674980927719953707902839235398779582239131983230566235076690419991610576496175327210257911824660433377352989201720536096093583825597717627264814574385041887878811032054317214109010827443510864816183881870269510436020537031983994900186210581690089765075388829001525549120998343012266261460973450087498736612376586148428888485490437327969571823250200948682770573900705312509156840009316⟩) (.cons (.int .u8 (.ofNat 59)) .nil)), (.int .i64 (.ofNat 165)), []⟩
theorem k174Ok : Am.OneOk Tryz.prog [] k174 :=
  Am.one_of_run (orc := orc0) (N := 999) (R := []) mixed progOk (extOk _) orc0Ok (by kernel_rfl) (by kernel_rfl) (by kernel_rfl) (by kernel_rfl)
noncomputable def k175 : Am.Known := ⟨117, (.cons (.str ⟨165, 7614376567866923529229122439862383833673166539784564414230550961664488762843792857273269696376975682450472501584414140445967526524521655288875027501384681404864289992535673945199969797207808033878611605702291427793314288118227242928134298198194217305628544826824317287365450164687075497971420301584703131666761905875282389171412937455550475008276310744737647815139241785075332623298424606813537824⟩) .nil), (.tup (.cons (.slice 64 0 13 2 false) (.cons (.int .i64 (.ofNat 0)) (.cons (.int .i64 (.ofNat 0)) .nil)))), [.cells 189 (.cons (.int .i32 (.ofNat 768)) (.cons (.int .i32 (.ofNat 879)) (.cons (.int .i32 (.ofNat 1155)) (.cons (.int .i32 (.ofNat 1161)) (.cons (.int .i32 (.ofNat 1425)) (.cons (.int .i32 (.ofNat 1469)) (.cons (.int .i32 (.ofNat 1611)) (.cons (.int .i32 (.ofNat 1631)) (.cons (.int .i32 (.ofNat 2364)) (.cons (.int .i32 (.ofNat 2364)) (.cons (.int .i32 (.ofNat 2381)) (.cons (.int .i32 (.ofNat 2381)) (.cons (.int .i32 (.ofNat 3636)) (.cons (.int .i32 (.ofNat 3642)) (.cons (.int .i32 (.ofNat 8204)) (.cons (.int .i32 (.ofNat 8204)) (.cons (.int .i32 (.ofNat 8400)) (.cons (.int .i32 (.ofNat 8432)) (.cons (.int .i32 (.ofNat 12441)) (.cons (.int .i32 (.ofNat 12442)) (.cons (.int .i32 (.ofNat 65024)) (.cons (.int .i32 (.ofNat 65039)) (.cons (.int .i32 (.ofNat 127995)) (.cons (.int .i32 (.ofNat 127999)) (.cons (.int .i32 (.ofNat 917536)) (.cons (.int .i32 (.ofNat 917631)) .nil))))))))))))))))))))))))))]⟩
theorem k175Ok : Am.OneOk Tryz.prog [] k175 :=
  Am.one_of_run (orc := orc0) (N := 999) (R := [238]) mixed progOk (extOk _) orc0Ok (by kernel_rfl) (by kernel_rfl) (by kernel_rfl) (by kernel_rfl)
noncomputable def k176 : Am.Known := ⟨114, (.cons (.str ⟨12, 26358446652303559166992734026⟩) (.cons (.int .u8 (.ofNat 35)) .nil)), (.int .i64 (.negSucc 0)), []⟩
theorem k176Ok : Am.OneOk Tryz.prog [] k176 :=
  Am.one_of_run (orc := orc0) (N := 999) (R := []) mixed progOk (extOk _) orc0Ok (by kernel_rfl) (by kernel_rfl) (by kernel_rfl) (by kernel_rfl)
noncomputable def k177 : Am.Known := ⟨114, (.cons (.str ⟨12, 26358446652303559166992734026⟩) (.cons (.int .u8 (.ofNat 59)) .nil)), (.int .i64 (.ofNat 7)), []⟩
theorem k177Ok : Am.OneOk Tryz.prog [] k177 :=
  Am.one_of_run (orc := orc0) (N := 999) (R := []) mixed progOk (extOk _) orc0Ok (by kernel_rfl) (by kernel_rfl) (by kernel_rfl) (by kernel_rfl)
noncomputable def k178 : Am.Known := ⟨117, (.cons (.str ⟨7, 23972867577234464⟩) .nil), (.tup (.cons (.slice 64 0 1 2 false) (.cons (.int .i64 (.ofNat 0)) (.cons (.int .i64 (.ofNat 0)) .nil)))), [.cells 189 (.cons (.int .i32 (.ofNat 8205)) (.cons (.int .i32 (.ofNat 8205)) .nil))]⟩
theorem k178Ok : Am.OneOk Tryz.prog [] k178 :=
  Am.one_of_run (orc := orc0) (N := 999) (R := [77]) mixed progOk (extOk _) orc0Ok (by kernel_rfl) (by kernel_rfl) (by kernel_rfl) (by kernel_rfl)
noncomputable def k179 : Am.Known := ⟨114, (.cons (.str ⟨48, 13108663381336717200139168278506299974797773952639873191124590358721702587825933956676157858880785953901713163383403⟩) (.cons (.int .u8 (.ofNat 35)) .nil)), (.int .i64 (.negSucc 0)), []⟩
theorem k179Ok : Am.OneOk Tryz.prog [] k179 :=
  Am.one_of_run (orc := orc0) (N := 999) (R := []) mixed progOk (extOk _) orc0Ok (by kernel_rfl) (by kernel_rfl) (by kernel_rfl) (by kernel_rfl)
noncomputable def k180 : Am.Known := ⟨114, (.cons (.str ⟨48, 13108663381336717200139168278506299974797773952639873191124590358721702587825933956676157858880785953901713163383403⟩) (.cons (.int .u8 (.ofNat 59)) .nil)), (.int .i64 (.ofNat 42)), []⟩
theorem k180Ok : Am.OneOk Tryz.prog [] k180 :=
  Am.one_of_run (orc := orc0) (N := 999) (R := []) mixed progOk (extOk _) orc0Ok (by kernel_rfl) (by kernel_rfl) (by kernel_rfl) (by kernel_rfl)
noncomputable def k181 : Am.Known := ⟨117, (.cons (.str ⟨42, 46571327705666182339922330436743536007774132033318441838519384954230782326426428442815669437780407072⟩) .nil), (.tup (.cons (.slice 64 0 4 2 false) (.cons (.int .i64 (.ofNat 0)) (.cons (.int .i64 (.ofNat 0)) .nil)))), [.cells 189 (.cons (.int .i32 (.ofNat 2307)) (.cons (.int .i32 (.ofNat 2307)) (.cons (.int .i32 (.ofNat 2366)) (.cons (.int .i32 (.ofNat 2368)) (.cons (.int .i32 (.ofNat 2377)) (.cons (.int .i32 (.ofNat 2380)) (.cons (.int .i32 (.ofNat 3635)) (.cons (.int .i32 (.ofNat 3635)) .nil))))))))]⟩
theorem k181Ok : Am.OneOk Tryz.prog [] k181 :=
  Am.one_of_run (orc := orc0) (N := 999) (R := [115]) mixed progOk (extOk _) orc0Ok (by kernel_rfl) (by kernel_rfl) (by kernel_rfl) (by kernel_rfl)
noncomputable def k182 : Am.Known := ⟨114, (.cons (.str ⟨45, 781337222684283314030409274232883888244721944197149379049606985155727226401363477861785488944471731561918052⟩) (.cons (.int .u8 (.ofNat 35)) .nil)), (.int .i64 (.negSucc 0)), []⟩
theorem k182Ok : Am.OneOk Tryz.prog [] k182 :=
  Am.one_of_run (orc := orc0) (N := 999) (R := []) mixed progOk (extOk _) orc0Ok (by kernel_rfl) (by kernel_rfl) (by kernel_rfl) (by kernel_rfl)
noncomputable def k183 : Am.Known := ⟨114, (.cons (.str ⟨45, 781337222684283314030409274232883888244721944197149379049606985155727226401363477861785488944471731561918052⟩) (.cons (.int .u8 (.ofNat 59)) .nil)), (.int .i64 (.ofNat 36)), []⟩
theorem k183Ok : Am.OneOk Tryz.prog [] k183 :=
  Am.one_of_run (orc := orc0) (N := 999) (R := []) mixed progOk (extOk _) orc0Ok (by kernel_rfl) (by kernel_rfl) (by kernel_rfl) (by kernel_rfl)
noncomputable def k184 : Am.Known := ⟨117, (.cons (.str ⟨36, 165454592632439516680354666206865962171671462575389653492108489735404476004368233153568⟩) .nil), (.tup (.cons (.slice 64 0 4 2 false) (.cons (.int .i64 (.ofNat 0)) (.cons (.int .i64 (.ofNat 0)) .nil)))), [.cells 189 (.cons (.int .i32 (.ofNat 1536)) (.cons (.int .i32 (.ofNat 1541)) (.cons (.int .i32 (.ofNat 1757)) (.cons (.int .i32 (.ofNat 1757)) (.cons (.int .i32 (.ofNat 1807)) (.cons (.int .i32 (.ofNat 1807)) (.cons (.int .i32 (.ofNat 69821)) (.cons (.int .i32 (.ofNat 69821)) .nil))))))))]⟩
theorem k184Ok : Am.OneOk Tryz.prog [] k184 :=
  Am.one_of_run (orc := orc0) (N := 999) (R := [114]) mixed progOk (extOk _) orc0Ok (by kernel_rfl) (by kernel_rfl) (by kernel_rfl) (by kernel_rfl)
noncomputable def k185 : Am.Known := ⟨114, (.cons (.str ⟨17, 28981413412300521447423255241175934378060⟩) (.cons (.int .u8 (.ofNat 35)) .nil)), (.int .i64 (.negSucc 0)), []⟩
theorem k185Ok : Am.OneOk Tryz.prog [] k185 :=
  Am.one_of_run (orc := orc0) (N := 999) (R := []) mixed progOk (extOk _) orc0Ok (by kernel_rfl) (by kernel_rfl) (by kernel_rfl) (by kernel_rfl)
noncomputable def k186 : Am.Known := ⟨114, (.cons (.str ⟨17, 28981413412300521447423255241175934378060⟩) (.cons (.int .u8 (.ofNat 59)) .nil)), (.int .i64 (.ofNat 14)), []⟩
theorem k186Ok : Am.OneOk Tryz.prog [] k186 :=
  Am.one_of_run (orc := orc0) (N := 999) (R := []) mixed progOk (extOk _) orc0Ok (by kernel_rfl) (by kernel_rfl) (by kernel_rfl) (by kernel_rfl)
noncomputable def k187 : Am.Known := ⟨117, (.cons (.str ⟨14, 1727426851528914061035111858914848⟩) .nil), (.tup (.cons (.slice 64 0 1 2 false) (.cons (.int .i64 (.ofNat 0)) (.cons (.int .i64 (.ofNat 0)) .nil)))), [.cells 189 (.cons (.int .i32 (.ofNat 4352)) (.cons (.int .i32 (.ofNat 4447)) .nil))]⟩
theorem k187Ok : Am.OneOk Tryz.prog [] k187 :=
  Am.one_of_run (orc := orc0) (N := 999) (R := [78]) mixed progOk (extOk _) orc0Ok (by kernel_rfl) (by kernel_rfl) (by kernel_rfl) (by kernel_rfl)
noncomputable def k188 : Am.Known := ⟨114, (.cons (.str ⟨17, 28981413412775890422508841279866913103958⟩) (.cons (.int .u8 (.ofNat 35)) .nil)), (.int .i64 (.negSucc 0)), []⟩
theorem k188Ok : Am.OneOk Tryz.prog [] k188 :=
  Am.one_of_run (orc := orc0) (N := 999) (R := []) mixed progOk (extOk _) orc0Ok (by kernel_rfl) (by kernel_rfl) (by kernel_rfl) (by kernel_rfl)
noncomputable def k189 : Am.Known := ⟨114, (.cons (.str ⟨17, 28981413412775890422508841279866913103958⟩) (.cons (.int .u8 (.ofNat 59)) .nil)), (.int .i64 (.ofNat 14)), []⟩
theorem k189Ok : Am.OneOk Tryz.prog [] k189 :=
  Am.one_of_run (orc := orc0) (N := 999) (R := []) mixed progOk (extOk _) orc0Ok (by kernel_rfl) (by kernel_rfl) (by kernel_rfl) (by kernel_rfl)
noncomputable def k190 : Am.Known := ⟨117, (.cons (.str ⟨14, 1727426851557248259932329730979616⟩) .nil), (.tup (.cons (.slice 64 0 1 2 false) (.cons (.int .i64 (.ofNat 0)) (.cons (.int .i64 (.ofNat 0)) .nil)))), [.cells 189 (.cons (.int .i32 (.ofNat 4448)) (.cons (.int .i32 (.ofNat 4519)) .nil))]⟩
theorem k190Ok : Am.OneOk Tryz.prog [] k190 :=
  Am.one_of_run (orc := orc0) (N := 999) (R := [78]) mixed progOk (extOk _) orc0Ok (by kernel_rfl) (by kernel_rfl) (by kernel_rfl) (by kernel_rfl)
noncomputable def k191 : Am.Known := ⟨114, (.cons (.str ⟨17, 28981413413649876090244319759507677454420⟩) (.cons (.int .u8 (.ofNat 35)) .nil)), (.int .i64 (.negSucc 0)), []⟩
theorem k191Ok : Am.OneOk Tryz.prog [] k191 :=
  Am.one_of_run (orc := orc0) (N := 999) (R := []) mixed progOk (extOk _) orc0Ok (by kernel_rfl) (by kernel_rfl) (by kernel_rfl) (by kernel_rfl)
noncomputable def k192 : Am.Known := ⟨114, (.cons (.str ⟨17, 28981413413649876090244319759507677454420⟩) (.cons (.int .u8 (.ofNat 59)) .nil)), (.int .i64 (.ofNat 14)), []⟩
theorem k192Ok : Am.OneOk Tryz.prog [] k192 :=
  Am.one_of_run (orc := orc0) (N := 999) (R := []) mixed progOk (extOk _) orc0Ok (by kernel_rfl) (by kernel_rfl) (by kernel_rfl) (by kernel_rfl)
end Go.Proofs.YtofmmjfbmiinoabGreatDoor.searchNil
