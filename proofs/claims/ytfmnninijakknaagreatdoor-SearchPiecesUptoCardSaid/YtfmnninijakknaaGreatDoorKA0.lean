/- SearchPieces's closed run: calls whose results are known. -/
import Derived.Test.YtfmnninijakknaaGreatDoorBase
namespace Go.Proofs.YtfmnninijakknaaGreatDoor.searchPieces
noncomputable def k0 : Am.Known := ⟨40, (.cons (.str ⟨2, 13877⟩) (.cons (.int .i64 (.ofNat 10)) .nil)), (.int .i32 (.ofNat 65)), []⟩
theorem k0Ok : Am.OneOk Tryz.prog [] k0 :=
  Am.one_of_run (orc := orc0) (N := 999) (R := []) mixed progOk (extOk _) orc0Ok (by kernel_rfl) (by kernel_rfl) (by kernel_rfl) (by kernel_rfl)
noncomputable def k1 : Am.Known := ⟨40, (.cons (.str ⟨2, 14640⟩) (.cons (.int .i64 (.ofNat 10)) .nil)), (.int .i32 (.ofNat 90)), []⟩
theorem k1Ok : Am.OneOk Tryz.prog [] k1 :=
  Am.one_of_run (orc := orc0) (N := 999) (R := []) mixed progOk (extOk _) orc0Ok (by kernel_rfl) (by kernel_rfl) (by kernel_rfl) (by kernel_rfl)
noncomputable def k2 : Am.Known := ⟨40, (.cons (.str ⟨2, 13106⟩) (.cons (.int .i64 (.ofNat 10)) .nil)), (.int .i32 (.ofNat 32)), []⟩
theorem k2Ok : Am.OneOk Tryz.prog [] k2 :=
  Am.one_of_run (orc := orc0) (N := 999) (R := []) mixed progOk (extOk _) orc0Ok (by kernel_rfl) (by kernel_rfl) (by kernel_rfl) (by kernel_rfl)
noncomputable def k3 : Am.Known := ⟨40, (.cons (.str ⟨1, 49⟩) (.cons (.int .i64 (.ofNat 10)) .nil)), (.int .i32 (.ofNat 1)), []⟩
theorem k3Ok : Am.OneOk Tryz.prog [] k3 :=
  Am.one_of_run (orc := orc0) (N := 999) (R := []) mixed progOk (extOk _) orc0Ok (by kernel_rfl) (by kernel_rfl) (by kernel_rfl) (by kernel_rfl)
noncomputable def k4 : Am.Known := ⟨40, (.cons (.str ⟨3, 3225906⟩) (.cons (.int .i64 (.ofNat 10)) .nil)), (.int .i32 (.ofNat 192)), []⟩
theorem k4Ok : Am.OneOk Tryz.prog [] k4 :=
  Am.one_of_run (orc := orc0) (N := 999) (R := []) mixed progOk (extOk _) orc0Ok (by kernel_rfl) (by kernel_rfl) (by kernel_rfl) (by kernel_rfl)
noncomputable def k5 : Am.Known := ⟨40, (.cons (.str ⟨3, 3289396⟩) (.cons (.int .i64 (.ofNat 10)) .nil)), (.int .i32 (.ofNat 214)), []⟩
theorem k5Ok : Am.OneOk Tryz.prog [] k5 :=
  Am.one_of_run (orc := orc0) (N := 999) (R := []) mixed progOk (extOk _) orc0Ok (by kernel_rfl) (by kernel_rfl) (by kernel_rfl) (by kernel_rfl)
noncomputable def k6 : Am.Known := ⟨40, (.cons (.str ⟨3, 3289398⟩) (.cons (.int .i64 (.ofNat 10)) .nil)), (.int .i32 (.ofNat 216)), []⟩
theorem k6Ok : Am.OneOk Tryz.prog [] k6 :=
  Am.one_of_run (orc := orc0) (N := 999) (R := []) mixed progOk (extOk _) orc0Ok (by kernel_rfl) (by kernel_rfl) (by kernel_rfl) (by kernel_rfl)
noncomputable def k7 : Am.Known := ⟨40, (.cons (.str ⟨3, 3289650⟩) (.cons (.int .i64 (.ofNat 10)) .nil)), (.int .i32 (.ofNat 222)), []⟩
theorem k7Ok : Am.OneOk Tryz.prog [] k7 :=
  Am.one_of_run (orc := orc0) (N := 999) (R := []) mixed progOk (extOk _) orc0Ok (by kernel_rfl) (by kernel_rfl) (by kernel_rfl) (by kernel_rfl)
noncomputable def k8 : Am.Known := ⟨40, (.cons (.str ⟨3, 3290422⟩) (.cons (.int .i64 (.ofNat 10)) .nil)), (.int .i32 (.ofNat 256)), []⟩
theorem k8Ok : Am.OneOk Tryz.prog [] k8 :=
  Am.one_of_run (orc := orc0) (N := 999) (R := []) mixed progOk (extOk _) orc0Ok (by kernel_rfl) (by kernel_rfl) (by kernel_rfl) (by kernel_rfl)
noncomputable def k9 : Am.Known := ⟨40, (.cons (.str ⟨3, 3354674⟩) (.cons (.int .i64 (.ofNat 10)) .nil)), (.int .i32 (.ofNat 302)), []⟩
theorem k9Ok : Am.OneOk Tryz.prog [] k9 :=
  Am.one_of_run (orc := orc0) (N := 999) (R := []) mixed progOk (extOk _) orc0Ok (by kernel_rfl) (by kernel_rfl) (by kernel_rfl) (by kernel_rfl)
noncomputable def k10 : Am.Known := ⟨40, (.cons (.str ⟨1, 50⟩) (.cons (.int .i64 (.ofNat 10)) .nil)), (.int .i32 (.ofNat 2)), []⟩
theorem k10Ok : Am.OneOk Tryz.prog [] k10 :=
  Am.one_of_run (orc := orc0) (N := 999) (R := []) mixed progOk (extOk _) orc0Ok (by kernel_rfl) (by kernel_rfl) (by kernel_rfl) (by kernel_rfl)
noncomputable def k11 : Am.Known := ⟨40, (.cons (.str ⟨3, 3354678⟩) (.cons (.int .i64 (.ofNat 10)) .nil)), (.int .i32 (.ofNat 306)), []⟩
theorem k11Ok : Am.OneOk Tryz.prog [] k11 :=
  Am.one_of_run (orc := orc0) (N := 999) (R := []) mixed progOk (extOk _) orc0Ok (by kernel_rfl) (by kernel_rfl) (by kernel_rfl) (by kernel_rfl)
noncomputable def k12 : Am.Known := ⟨40, (.cons (.str ⟨3, 3354928⟩) (.cons (.int .i64 (.ofNat 10)) .nil)), (.int .i32 (.ofNat 310)), []⟩
theorem k12Ok : Am.OneOk Tryz.prog [] k12 :=
  Am.one_of_run (orc := orc0) (N := 999) (R := []) mixed progOk (extOk _) orc0Ok (by kernel_rfl) (by kernel_rfl) (by kernel_rfl) (by kernel_rfl)
noncomputable def k13 : Am.Known := ⟨40, (.cons (.str ⟨3, 3354931⟩) (.cons (.int .i64 (.ofNat 10)) .nil)), (.int .i32 (.ofNat 313)), []⟩
theorem k13Ok : Am.OneOk Tryz.prog [] k13 :=
  Am.one_of_run (orc := orc0) (N := 999) (R := []) mixed progOk (extOk _) orc0Ok (by kernel_rfl) (by kernel_rfl) (by kernel_rfl) (by kernel_rfl)
noncomputable def k14 : Am.Known := ⟨40, (.cons (.str ⟨3, 3355191⟩) (.cons (.int .i64 (.ofNat 10)) .nil)), (.int .i32 (.ofNat 327)), []⟩
theorem k14Ok : Am.OneOk Tryz.prog [] k14 :=
  Am.one_of_run (orc := orc0) (N := 999) (R := []) mixed progOk (extOk _) orc0Ok (by kernel_rfl) (by kernel_rfl) (by kernel_rfl) (by kernel_rfl)
noncomputable def k15 : Am.Known := ⟨40, (.cons (.str ⟨3, 3355440⟩) (.cons (.int .i64 (.ofNat 10)) .nil)), (.int .i32 (.ofNat 330)), []⟩
theorem k15Ok : Am.OneOk Tryz.prog [] k15 :=
  Am.one_of_run (orc := orc0) (N := 999) (R := []) mixed progOk (extOk _) orc0Ok (by kernel_rfl) (by kernel_rfl) (by kernel_rfl) (by kernel_rfl)
noncomputable def k16 : Am.Known := ⟨40, (.cons (.str ⟨3, 3356468⟩) (.cons (.int .i64 (.ofNat 10)) .nil)), (.int .i32 (.ofNat 374)), []⟩
theorem k16Ok : Am.OneOk Tryz.prog [] k16 :=
  Am.one_of_run (orc := orc0) (N := 999) (R := []) mixed progOk (extOk _) orc0Ok (by kernel_rfl) (by kernel_rfl) (by kernel_rfl) (by kernel_rfl)
noncomputable def k17 : Am.Known := ⟨40, (.cons (.str ⟨3, 3356470⟩) (.cons (.int .i64 (.ofNat 10)) .nil)), (.int .i32 (.ofNat 376)), []⟩
theorem k17Ok : Am.OneOk Tryz.prog [] k17 :=
  Am.one_of_run (orc := orc0) (N := 999) (R := []) mixed progOk (extOk _) orc0Ok (by kernel_rfl) (by kernel_rfl) (by kernel_rfl) (by kernel_rfl)
noncomputable def k18 : Am.Known := ⟨40, (.cons (.str ⟨4, 758198833⟩) (.cons (.int .i64 (.ofNat 10)) .nil)), (.int .i32 (.negSucc 120)), []⟩
theorem k18Ok : Am.OneOk Tryz.prog [] k18 :=
  Am.one_of_run (orc := orc0) (N := 999) (R := []) mixed progOk (extOk _) orc0Ok (by kernel_rfl) (by kernel_rfl) (by kernel_rfl) (by kernel_rfl)
noncomputable def k19 : Am.Known := ⟨40, (.cons (.str ⟨3, 3356471⟩) (.cons (.int .i64 (.ofNat 10)) .nil)), (.int .i32 (.ofNat 377)), []⟩
theorem k19Ok : Am.OneOk Tryz.prog [] k19 :=
  Am.one_of_run (orc := orc0) (N := 999) (R := []) mixed progOk (extOk _) orc0Ok (by kernel_rfl) (by kernel_rfl) (by kernel_rfl) (by kernel_rfl)
noncomputable def k20 : Am.Known := ⟨40, (.cons (.str ⟨3, 3356721⟩) (.cons (.int .i64 (.ofNat 10)) .nil)), (.int .i32 (.ofNat 381)), []⟩
theorem k20Ok : Am.OneOk Tryz.prog [] k20 :=
  Am.one_of_run (orc := orc0) (N := 999) (R := []) mixed progOk (extOk _) orc0Ok (by kernel_rfl) (by kernel_rfl) (by kernel_rfl) (by kernel_rfl)
noncomputable def k21 : Am.Known := ⟨40, (.cons (.str ⟨3, 3747890⟩) (.cons (.int .i64 (.ofNat 10)) .nil)), (.int .i32 (.ofNat 902)), []⟩
theorem k21Ok : Am.OneOk Tryz.prog [] k21 :=
  Am.one_of_run (orc := orc0) (N := 999) (R := []) mixed progOk (extOk _) orc0Ok (by kernel_rfl) (by kernel_rfl) (by kernel_rfl) (by kernel_rfl)
noncomputable def k22 : Am.Known := ⟨40, (.cons (.str ⟨2, 13112⟩) (.cons (.int .i64 (.ofNat 10)) .nil)), (.int .i32 (.ofNat 38)), []⟩
theorem k22Ok : Am.OneOk Tryz.prog [] k22 :=
  Am.one_of_run (orc := orc0) (N := 999) (R := []) mixed progOk (extOk _) orc0Ok (by kernel_rfl) (by kernel_rfl) (by kernel_rfl) (by kernel_rfl)
noncomputable def k23 : Am.Known := ⟨40, (.cons (.str ⟨3, 3747892⟩) (.cons (.int .i64 (.ofNat 10)) .nil)), (.int .i32 (.ofNat 904)), []⟩
theorem k23Ok : Am.OneOk Tryz.prog [] k23 :=
  Am.one_of_run (orc := orc0) (N := 999) (R := []) mixed progOk (extOk _) orc0Ok (by kernel_rfl) (by kernel_rfl) (by kernel_rfl) (by kernel_rfl)
noncomputable def k24 : Am.Known := ⟨40, (.cons (.str ⟨3, 3747894⟩) (.cons (.int .i64 (.ofNat 10)) .nil)), (.int .i32 (.ofNat 906)), []⟩
theorem k24Ok : Am.OneOk Tryz.prog [] k24 :=
  Am.one_of_run (orc := orc0) (N := 999) (R := []) mixed progOk (extOk _) orc0Ok (by kernel_rfl) (by kernel_rfl) (by kernel_rfl) (by kernel_rfl)
noncomputable def k25 : Am.Known := ⟨40, (.cons (.str ⟨2, 13111⟩) (.cons (.int .i64 (.ofNat 10)) .nil)), (.int .i32 (.ofNat 37)), []⟩
theorem k25Ok : Am.OneOk Tryz.prog [] k25 :=
  Am.one_of_run (orc := orc0) (N := 999) (R := []) mixed progOk (extOk _) orc0Ok (by kernel_rfl) (by kernel_rfl) (by kernel_rfl) (by kernel_rfl)
noncomputable def k26 : Am.Known := ⟨40, (.cons (.str ⟨3, 3747896⟩) (.cons (.int .i64 (.ofNat 10)) .nil)), (.int .i32 (.ofNat 908)), []⟩
theorem k26Ok : Am.OneOk Tryz.prog [] k26 :=
  Am.one_of_run (orc := orc0) (N := 999) (R := []) mixed progOk (extOk _) orc0Ok (by kernel_rfl) (by kernel_rfl) (by kernel_rfl) (by kernel_rfl)
noncomputable def k27 : Am.Known := ⟨40, (.cons (.str ⟨2, 13876⟩) (.cons (.int .i64 (.ofNat 10)) .nil)), (.int .i32 (.ofNat 64)), []⟩
theorem k27Ok : Am.OneOk Tryz.prog [] k27 :=
  Am.one_of_run (orc := orc0) (N := 999) (R := []) mixed progOk (extOk _) orc0Ok (by kernel_rfl) (by kernel_rfl) (by kernel_rfl) (by kernel_rfl)
noncomputable def k28 : Am.Known := ⟨40, (.cons (.str ⟨3, 3748144⟩) (.cons (.int .i64 (.ofNat 10)) .nil)), (.int .i32 (.ofNat 910)), []⟩
theorem k28Ok : Am.OneOk Tryz.prog [] k28 :=
  Am.one_of_run (orc := orc0) (N := 999) (R := []) mixed progOk (extOk _) orc0Ok (by kernel_rfl) (by kernel_rfl) (by kernel_rfl) (by kernel_rfl)
noncomputable def k29 : Am.Known := ⟨40, (.cons (.str ⟨3, 3748145⟩) (.cons (.int .i64 (.ofNat 10)) .nil)), (.int .i32 (.ofNat 911)), []⟩
theorem k29Ok : Am.OneOk Tryz.prog [] k29 :=
  Am.one_of_run (orc := orc0) (N := 999) (R := []) mixed progOk (extOk _) orc0Ok (by kernel_rfl) (by kernel_rfl) (by kernel_rfl) (by kernel_rfl)
noncomputable def k30 : Am.Known := ⟨40, (.cons (.str ⟨2, 13875⟩) (.cons (.int .i64 (.ofNat 10)) .nil)), (.int .i32 (.ofNat 63)), []⟩
theorem k30Ok : Am.OneOk Tryz.prog [] k30 :=
  Am.one_of_run (orc := orc0) (N := 999) (R := []) mixed progOk (extOk _) orc0Ok (by kernel_rfl) (by kernel_rfl) (by kernel_rfl) (by kernel_rfl)
noncomputable def k31 : Am.Known := ⟨40, (.cons (.str ⟨3, 3748147⟩) (.cons (.int .i64 (.ofNat 10)) .nil)), (.int .i32 (.ofNat 913)), []⟩
theorem k31Ok : Am.OneOk Tryz.prog [] k31 :=
  Am.one_of_run (orc := orc0) (N := 999) (R := []) mixed progOk (extOk _) orc0Ok (by kernel_rfl) (by kernel_rfl) (by kernel_rfl) (by kernel_rfl)
noncomputable def k32 : Am.Known := ⟨40, (.cons (.str ⟨3, 3748409⟩) (.cons (.int .i64 (.ofNat 10)) .nil)), (.int .i32 (.ofNat 929)), []⟩
theorem k32Ok : Am.OneOk Tryz.prog [] k32 :=
  Am.one_of_run (orc := orc0) (N := 999) (R := []) mixed progOk (extOk _) orc0Ok (by kernel_rfl) (by kernel_rfl) (by kernel_rfl) (by kernel_rfl)
noncomputable def k33 : Am.Known := ⟨40, (.cons (.str ⟨3, 3748657⟩) (.cons (.int .i64 (.ofNat 10)) .nil)), (.int .i32 (.ofNat 931)), []⟩
theorem k33Ok : Am.OneOk Tryz.prog [] k33 :=
  Am.one_of_run (orc := orc0) (N := 999) (R := []) mixed progOk (extOk _) orc0Ok (by kernel_rfl) (by kernel_rfl) (by kernel_rfl) (by kernel_rfl)
noncomputable def k34 : Am.Known := ⟨40, (.cons (.str ⟨3, 3748665⟩) (.cons (.int .i64 (.ofNat 10)) .nil)), (.int .i32 (.ofNat 939)), []⟩
theorem k34Ok : Am.OneOk Tryz.prog [] k34 :=
  Am.one_of_run (orc := orc0) (N := 999) (R := []) mixed progOk (extOk _) orc0Ok (by kernel_rfl) (by kernel_rfl) (by kernel_rfl) (by kernel_rfl)
noncomputable def k35 : Am.Known := ⟨40, (.cons (.str ⟨4, 825242164⟩) (.cons (.int .i64 (.ofNat 10)) .nil)), (.int .i32 (.ofNat 1024)), []⟩
theorem k35Ok : Am.OneOk Tryz.prog [] k35 :=
  Am.one_of_run (orc := orc0) (N := 999) (R := []) mixed progOk (extOk _) orc0Ok (by kernel_rfl) (by kernel_rfl) (by kernel_rfl) (by kernel_rfl)
noncomputable def k36 : Am.Known := ⟨40, (.cons (.str ⟨4, 825242425⟩) (.cons (.int .i64 (.ofNat 10)) .nil)), (.int .i32 (.ofNat 1039)), []⟩
theorem k36Ok : Am.OneOk Tryz.prog [] k36 :=
  Am.one_of_run (orc := orc0) (N := 999) (R := []) mixed progOk (extOk _) orc0Ok (by kernel_rfl) (by kernel_rfl) (by kernel_rfl) (by kernel_rfl)
noncomputable def k37 : Am.Known := ⟨40, (.cons (.str ⟨2, 14384⟩) (.cons (.int .i64 (.ofNat 10)) .nil)), (.int .i32 (.ofNat 80)), []⟩
theorem k37Ok : Am.OneOk Tryz.prog [] k37 :=
  Am.one_of_run (orc := orc0) (N := 999) (R := []) mixed progOk (extOk _) orc0Ok (by kernel_rfl) (by kernel_rfl) (by kernel_rfl) (by kernel_rfl)
noncomputable def k38 : Am.Known := ⟨40, (.cons (.str ⟨4, 825242672⟩) (.cons (.int .i64 (.ofNat 10)) .nil)), (.int .i32 (.ofNat 1040)), []⟩
theorem k38Ok : Am.OneOk Tryz.prog [] k38 :=
  Am.one_of_run (orc := orc0) (N := 999) (R := []) mixed progOk (extOk _) orc0Ok (by kernel_rfl) (by kernel_rfl) (by kernel_rfl) (by kernel_rfl)
noncomputable def k39 : Am.Known := ⟨40, (.cons (.str ⟨4, 825243441⟩) (.cons (.int .i64 (.ofNat 10)) .nil)), (.int .i32 (.ofNat 1071)), []⟩
theorem k39Ok : Am.OneOk Tryz.prog [] k39 :=
  Am.one_of_run (orc := orc0) (N := 999) (R := []) mixed progOk (extOk _) orc0Ok (by kernel_rfl) (by kernel_rfl) (by kernel_rfl) (by kernel_rfl)
noncomputable def k40 : Am.Known := ⟨40, (.cons (.str ⟨4, 825307696⟩) (.cons (.int .i64 (.ofNat 10)) .nil)), (.int .i32 (.ofNat 1120)), []⟩
theorem k40Ok : Am.OneOk Tryz.prog [] k40 :=
  Am.one_of_run (orc := orc0) (N := 999) (R := []) mixed progOk (extOk _) orc0Ok (by kernel_rfl) (by kernel_rfl) (by kernel_rfl) (by kernel_rfl)
noncomputable def k41 : Am.Known := ⟨40, (.cons (.str ⟨4, 825308466⟩) (.cons (.int .i64 (.ofNat 10)) .nil)), (.int .i32 (.ofNat 1152)), []⟩
theorem k41Ok : Am.OneOk Tryz.prog [] k41 :=
  Am.one_of_run (orc := orc0) (N := 999) (R := []) mixed progOk (extOk _) orc0Ok (by kernel_rfl) (by kernel_rfl) (by kernel_rfl) (by kernel_rfl)
noncomputable def k42 : Am.Known := ⟨40, (.cons (.str ⟨4, 825438777⟩) (.cons (.int .i64 (.ofNat 10)) .nil)), (.int .i32 (.ofNat 1329)), []⟩
theorem k42Ok : Am.OneOk Tryz.prog [] k42 :=
  Am.one_of_run (orc := orc0) (N := 999) (R := []) mixed progOk (extOk _) orc0Ok (by kernel_rfl) (by kernel_rfl) (by kernel_rfl) (by kernel_rfl)
noncomputable def k43 : Am.Known := ⟨40, (.cons (.str ⟨4, 825439798⟩) (.cons (.int .i64 (.ofNat 10)) .nil)), (.int .i32 (.ofNat 1366)), []⟩
theorem k43Ok : Am.OneOk Tryz.prog [] k43 :=
  Am.one_of_run (orc := orc0) (N := 999) (R := []) mixed progOk (extOk _) orc0Ok (by kernel_rfl) (by kernel_rfl) (by kernel_rfl) (by kernel_rfl)
noncomputable def k44 : Am.Known := ⟨40, (.cons (.str ⟨2, 13368⟩) (.cons (.int .i64 (.ofNat 10)) .nil)), (.int .i32 (.ofNat 48)), []⟩
theorem k44Ok : Am.OneOk Tryz.prog [] k44 :=
  Am.one_of_run (orc := orc0) (N := 999) (R := []) mixed progOk (extOk _) orc0Ok (by kernel_rfl) (by kernel_rfl) (by kernel_rfl) (by kernel_rfl)
noncomputable def k45 : Am.Known := ⟨40, (.cons (.str ⟨4, 926300208⟩) (.cons (.int .i64 (.ofNat 10)) .nil)), (.int .i32 (.ofNat 7680)), []⟩
theorem k45Ok : Am.OneOk Tryz.prog [] k45 :=
  Am.one_of_run (orc := orc0) (N := 999) (R := []) mixed progOk (extOk _) orc0Ok (by kernel_rfl) (by kernel_rfl) (by kernel_rfl) (by kernel_rfl)
noncomputable def k46 : Am.Known := ⟨40, (.cons (.str ⟨4, 926429752⟩) (.cons (.int .i64 (.ofNat 10)) .nil)), (.int .i32 (.ofNat 7828)), []⟩
theorem k46Ok : Am.OneOk Tryz.prog [] k46 :=
  Am.one_of_run (orc := orc0) (N := 999) (R := []) mixed progOk (extOk _) orc0Ok (by kernel_rfl) (by kernel_rfl) (by kernel_rfl) (by kernel_rfl)
noncomputable def k47 : Am.Known := ⟨40, (.cons (.str ⟨4, 943010868⟩) (.cons (.int .i64 (.ofNat 10)) .nil)), (.int .i32 (.ofNat 8544)), []⟩
theorem k47Ok : Am.OneOk Tryz.prog [] k47 :=
  Am.one_of_run (orc := orc0) (N := 999) (R := []) mixed progOk (extOk _) orc0Ok (by kernel_rfl) (by kernel_rfl) (by kernel_rfl) (by kernel_rfl)
noncomputable def k48 : Am.Known := ⟨40, (.cons (.str ⟨4, 943011129⟩) (.cons (.int .i64 (.ofNat 10)) .nil)), (.int .i32 (.ofNat 8559)), []⟩
theorem k48Ok : Am.OneOk Tryz.prog [] k48 :=
  Am.one_of_run (orc := orc0) (N := 999) (R := []) mixed progOk (extOk _) orc0Ok (by kernel_rfl) (by kernel_rfl) (by kernel_rfl) (by kernel_rfl)
noncomputable def k49 : Am.Known := ⟨40, (.cons (.str ⟨2, 12598⟩) (.cons (.int .i64 (.ofNat 10)) .nil)), (.int .i32 (.ofNat 16)), []⟩
theorem k49Ok : Am.OneOk Tryz.prog [] k49 :=
  Am.one_of_run (orc := orc0) (N := 999) (R := []) mixed progOk (extOk _) orc0Ok (by kernel_rfl) (by kernel_rfl) (by kernel_rfl) (by kernel_rfl)
noncomputable def k50 : Am.Known := ⟨40, (.cons (.str ⟨5, 232820781363⟩) (.cons (.int .i64 (.ofNat 10)) .nil)), (.int .i32 (.ofNat 65313)), []⟩
theorem k50Ok : Am.OneOk Tryz.prog [] k50 :=
  Am.one_of_run (orc := orc0) (N := 999) (R := []) mixed progOk (extOk _) orc0Ok (by kernel_rfl) (by kernel_rfl) (by kernel_rfl) (by kernel_rfl)
noncomputable def k51 : Am.Known := ⟨40, (.cons (.str ⟨5, 232820781880⟩) (.cons (.int .i64 (.ofNat 10)) .nil)), (.int .i32 (.ofNat 65338)), []⟩
theorem k51Ok : Am.OneOk Tryz.prog [] k51 :=
  Am.one_of_run (orc := orc0) (N := 999) (R := []) mixed progOk (extOk _) orc0Ok (by kernel_rfl) (by kernel_rfl) (by kernel_rfl) (by kernel_rfl)
noncomputable def k52 : Am.Known := ⟨40, (.cons (.str ⟨5, 232837690928⟩) (.cons (.int .i64 (.ofNat 10)) .nil)), (.int .i32 (.ofNat 66560)), []⟩
theorem k52Ok : Am.OneOk Tryz.prog [] k52 :=
  Am.one_of_run (orc := orc0) (N := 999) (R := []) mixed progOk (extOk _) orc0Ok (by kernel_rfl) (by kernel_rfl) (by kernel_rfl) (by kernel_rfl)
noncomputable def k53 : Am.Known := ⟨40, (.cons (.str ⟨5, 232837691705⟩) (.cons (.int .i64 (.ofNat 10)) .nil)), (.int .i32 (.ofNat 66599)), []⟩
theorem k53Ok : Am.OneOk Tryz.prog [] k53 :=
  Am.one_of_run (orc := orc0) (N := 999) (R := []) mixed progOk (extOk _) orc0Ok (by kernel_rfl) (by kernel_rfl) (by kernel_rfl) (by kernel_rfl)
noncomputable def k54 : Am.Known := ⟨40, (.cons (.str ⟨2, 13360⟩) (.cons (.int .i64 (.ofNat 10)) .nil)), (.int .i32 (.ofNat 40)), []⟩
theorem k54Ok : Am.OneOk Tryz.prog [] k54 :=
  Am.one_of_run (orc := orc0) (N := 999) (R := []) mixed progOk (extOk _) orc0Ok (by kernel_rfl) (by kernel_rfl) (by kernel_rfl) (by kernel_rfl)
noncomputable def k55 : Am.Known := ⟨40, (.cons (.str ⟨2, 25702⟩) (.cons (.int .i64 (.ofNat 16)) .nil)), (.int .i32 (.ofNat 223)), []⟩
theorem k55Ok : Am.OneOk Tryz.prog [] k55 :=
  Am.one_of_run (orc := orc0) (N := 999) (R := []) mixed progOk (extOk _) orc0Ok (by kernel_rfl) (by kernel_rfl) (by kernel_rfl) (by kernel_rfl)
noncomputable def k58 : Am.Known := ⟨40, (.cons (.str ⟨2, 13619⟩) (.cons (.int .i64 (.ofNat 16)) .nil)), (.int .i32 (.ofNat 83)), []⟩
theorem k58Ok : Am.OneOk Tryz.prog [] k58 :=
  Am.one_of_run (orc := orc0) (N := 999) (R := []) mixed progOk (extOk _) orc0Ok (by kernel_rfl) (by kernel_rfl) (by kernel_rfl) (by kernel_rfl)
noncomputable def k60 : Am.Known := ⟨40, (.cons (.str ⟨2, 14131⟩) (.cons (.int .i64 (.ofNat 16)) .nil)), (.int .i32 (.ofNat 115)), []⟩
theorem k60Ok : Am.OneOk Tryz.prog [] k60 :=
  Am.one_of_run (orc := orc0) (N := 999) (R := []) mixed progOk (extOk _) orc0Ok (by kernel_rfl) (by kernel_rfl) (by kernel_rfl) (by kernel_rfl)
noncomputable def k63 : Am.Known := ⟨40, (.cons (.str ⟨3, 3224368⟩) (.cons (.int .i64 (.ofNat 16)) .nil)), (.int .i32 (.ofNat 304)), []⟩
theorem k63Ok : Am.OneOk Tryz.prog [] k63 :=
  Am.one_of_run (orc := orc0) (N := 999) (R := []) mixed progOk (extOk _) orc0Ok (by kernel_rfl) (by kernel_rfl) (by kernel_rfl) (by kernel_rfl)
noncomputable def k65 : Am.Known := ⟨40, (.cons (.str ⟨2, 13881⟩) (.cons (.int .i64 (.ofNat 16)) .nil)), (.int .i32 (.ofNat 105)), []⟩
theorem k65Ok : Am.OneOk Tryz.prog [] k65 :=
  Am.one_of_run (orc := orc0) (N := 999) (R := []) mixed progOk (extOk _) orc0Ok (by kernel_rfl) (by kernel_rfl) (by kernel_rfl) (by kernel_rfl)
noncomputable def k66 : Am.Known := ⟨40, (.cons (.str ⟨3, 3354679⟩) (.cons (.int .i64 (.ofNat 16)) .nil)), (.int .i32 (.ofNat 775)), []⟩
theorem k66Ok : Am.OneOk Tryz.prog [] k66 :=
  Am.one_of_run (orc := orc0) (N := 999) (R := []) mixed progOk (extOk _) orc0Ok (by kernel_rfl) (by kernel_rfl) (by kernel_rfl) (by kernel_rfl)
noncomputable def k70 : Am.Known := ⟨40, (.cons (.str ⟨3, 3224369⟩) (.cons (.int .i64 (.ofNat 16)) .nil)), (.int .i32 (.ofNat 305)), []⟩
theorem k70Ok : Am.OneOk Tryz.prog [] k70 :=
  Am.one_of_run (orc := orc0) (N := 999) (R := []) mixed progOk (extOk _) orc0Ok (by kernel_rfl) (by kernel_rfl) (by kernel_rfl) (by kernel_rfl)
noncomputable def k73 : Am.Known := ⟨40, (.cons (.str ⟨2, 13369⟩) (.cons (.int .i64 (.ofNat 16)) .nil)), (.int .i32 (.ofNat 73)), []⟩
theorem k73Ok : Am.OneOk Tryz.prog [] k73 :=
  Am.one_of_run (orc := orc0) (N := 999) (R := []) mixed progOk (extOk _) orc0Ok (by kernel_rfl) (by kernel_rfl) (by kernel_rfl) (by kernel_rfl)
noncomputable def k76 : Am.Known := ⟨40, (.cons (.str ⟨3, 3224633⟩) (.cons (.int .i64 (.ofNat 16)) .nil)), (.int .i32 (.ofNat 329)), []⟩
theorem k76Ok : Am.OneOk Tryz.prog [] k76 :=
  Am.one_of_run (orc := orc0) (N := 999) (R := []) mixed progOk (extOk _) orc0Ok (by kernel_rfl) (by kernel_rfl) (by kernel_rfl) (by kernel_rfl)
noncomputable def k79 : Am.Known := ⟨40, (.cons (.str ⟨3, 3301987⟩) (.cons (.int .i64 (.ofNat 16)) .nil)), (.int .i32 (.ofNat 700)), []⟩
theorem k79Ok : Am.OneOk Tryz.prog [] k79 :=
  Am.one_of_run (orc := orc0) (N := 999) (R := []) mixed progOk (extOk _) orc0Ok (by kernel_rfl) (by kernel_rfl) (by kernel_rfl) (by kernel_rfl)
noncomputable def k80 : Am.Known := ⟨40, (.cons (.str ⟨2, 13413⟩) (.cons (.int .i64 (.ofNat 16)) .nil)), (.int .i32 (.ofNat 78)), []⟩
theorem k80Ok : Am.OneOk Tryz.prog [] k80 :=
  Am.one_of_run (orc := orc0) (N := 999) (R := []) mixed progOk (extOk _) orc0Ok (by kernel_rfl) (by kernel_rfl) (by kernel_rfl) (by kernel_rfl)
noncomputable def k82 : Am.Known := ⟨40, (.cons (.str ⟨2, 13925⟩) (.cons (.int .i64 (.ofNat 16)) .nil)), (.int .i32 (.ofNat 110)), []⟩
theorem k82Ok : Am.OneOk Tryz.prog [] k82 :=
  Am.one_of_run (orc := orc0) (N := 999) (R := []) mixed progOk (extOk _) orc0Ok (by kernel_rfl) (by kernel_rfl) (by kernel_rfl) (by kernel_rfl)
noncomputable def k84 : Am.Known := ⟨40, (.cons (.str ⟨3, 3225446⟩) (.cons (.int .i64 (.ofNat 16)) .nil)), (.int .i32 (.ofNat 383)), []⟩
theorem k84Ok : Am.OneOk Tryz.prog [] k84 :=
  Am.one_of_run (orc := orc0) (N := 999) (R := []) mixed progOk (extOk _) orc0Ok (by kernel_rfl) (by kernel_rfl) (by kernel_rfl) (by kernel_rfl)
noncomputable def k89 : Am.Known := ⟨40, (.cons (.str ⟨3, 3236660⟩) (.cons (.int .i64 (.ofNat 16)) .nil)), (.int .i32 (.ofNat 452)), []⟩
theorem k89Ok : Am.OneOk Tryz.prog [] k89 :=
  Am.one_of_run (orc := orc0) (N := 999) (R := []) mixed progOk (extOk _) orc0Ok (by kernel_rfl) (by kernel_rfl) (by kernel_rfl) (by kernel_rfl)
noncomputable def k91 : Am.Known := ⟨40, (.cons (.str ⟨3, 3236662⟩) (.cons (.int .i64 (.ofNat 16)) .nil)), (.int .i32 (.ofNat 454)), []⟩
theorem k91Ok : Am.OneOk Tryz.prog [] k91 :=
  Am.one_of_run (orc := orc0) (N := 999) (R := []) mixed progOk (extOk _) orc0Ok (by kernel_rfl) (by kernel_rfl) (by kernel_rfl) (by kernel_rfl)
noncomputable def k94 : Am.Known := ⟨40, (.cons (.str ⟨3, 3236661⟩) (.cons (.int .i64 (.ofNat 16)) .nil)), (.int .i32 (.ofNat 453)), []⟩
theorem k94Ok : Am.OneOk Tryz.prog [] k94 :=
  Am.one_of_run (orc := orc0) (N := 999) (R := []) mixed progOk (extOk _) orc0Ok (by kernel_rfl) (by kernel_rfl) (by kernel_rfl) (by kernel_rfl)
noncomputable def k99 : Am.Known := ⟨40, (.cons (.str ⟨3, 3237424⟩) (.cons (.int .i64 (.ofNat 16)) .nil)), (.int .i32 (.ofNat 496)), []⟩
theorem k99Ok : Am.OneOk Tryz.prog [] k99 :=
  Am.one_of_run (orc := orc0) (N := 999) (R := []) mixed progOk (extOk _) orc0Ok (by kernel_rfl) (by kernel_rfl) (by kernel_rfl) (by kernel_rfl)
noncomputable def k102 : Am.Known := ⟨40, (.cons (.str ⟨2, 13409⟩) (.cons (.int .i64 (.ofNat 16)) .nil)), (.int .i32 (.ofNat 74)), []⟩
theorem k102Ok : Am.OneOk Tryz.prog [] k102 :=
  Am.one_of_run (orc := orc0) (N := 999) (R := []) mixed progOk (extOk _) orc0Ok (by kernel_rfl) (by kernel_rfl) (by kernel_rfl) (by kernel_rfl)
noncomputable def k103 : Am.Known := ⟨40, (.cons (.str ⟨3, 3354723⟩) (.cons (.int .i64 (.ofNat 16)) .nil)), (.int .i32 (.ofNat 780)), []⟩
theorem k103Ok : Am.OneOk Tryz.prog [] k103 :=
  Am.one_of_run (orc := orc0) (N := 999) (R := []) mixed progOk (extOk _) orc0Ok (by kernel_rfl) (by kernel_rfl) (by kernel_rfl) (by kernel_rfl)
noncomputable def k105 : Am.Known := ⟨40, (.cons (.str ⟨2, 13921⟩) (.cons (.int .i64 (.ofNat 16)) .nil)), (.int .i32 (.ofNat 106)), []⟩
theorem k105Ok : Am.OneOk Tryz.prog [] k105 :=
  Am.one_of_run (orc := orc0) (N := 999) (R := []) mixed progOk (extOk _) orc0Ok (by kernel_rfl) (by kernel_rfl) (by kernel_rfl) (by kernel_rfl)
noncomputable def k107 : Am.Known := ⟨40, (.cons (.str ⟨3, 3356976⟩) (.cons (.int .i64 (.ofNat 16)) .nil)), (.int .i32 (.ofNat 912)), []⟩
theorem k107Ok : Am.OneOk Tryz.prog [] k107 :=
  Am.one_of_run (orc := orc0) (N := 999) (R := []) mixed progOk (extOk _) orc0Ok (by kernel_rfl) (by kernel_rfl) (by kernel_rfl) (by kernel_rfl)
noncomputable def k110 : Am.Known := ⟨40, (.cons (.str ⟨3, 3356985⟩) (.cons (.int .i64 (.ofNat 16)) .nil)), (.int .i32 (.ofNat 921)), []⟩
theorem k110Ok : Am.OneOk Tryz.prog [] k110 :=
  Am.one_of_run (orc := orc0) (N := 999) (R := []) mixed progOk (extOk _) orc0Ok (by kernel_rfl) (by kernel_rfl) (by kernel_rfl) (by kernel_rfl)
noncomputable def k111 : Am.Known := ⟨40, (.cons (.str ⟨3, 3354680⟩) (.cons (.int .i64 (.ofNat 16)) .nil)), (.int .i32 (.ofNat 776)), []⟩
theorem k111Ok : Am.OneOk Tryz.prog [] k111 :=
  Am.one_of_run (orc := orc0) (N := 999) (R := []) mixed progOk (extOk _) orc0Ok (by kernel_rfl) (by kernel_rfl) (by kernel_rfl) (by kernel_rfl)
noncomputable def k112 : Am.Known := ⟨40, (.cons (.str ⟨3, 3354673⟩) (.cons (.int .i64 (.ofNat 16)) .nil)), (.int .i32 (.ofNat 769)), []⟩
theorem k112Ok : Am.OneOk Tryz.prog [] k112 :=
  Am.one_of_run (orc := orc0) (N := 999) (R := []) mixed progOk (extOk _) orc0Ok (by kernel_rfl) (by kernel_rfl) (by kernel_rfl) (by kernel_rfl)
noncomputable def k114 : Am.Known := ⟨40, (.cons (.str ⟨3, 3367481⟩) (.cons (.int .i64 (.ofNat 16)) .nil)), (.int .i32 (.ofNat 953)), []⟩
theorem k114Ok : Am.OneOk Tryz.prog [] k114 :=
  Am.one_of_run (orc := orc0) (N := 999) (R := []) mixed progOk (extOk _) orc0Ok (by kernel_rfl) (by kernel_rfl) (by kernel_rfl) (by kernel_rfl)
noncomputable def k116 : Am.Known := ⟨40, (.cons (.str ⟨3, 3367730⟩) (.cons (.int .i64 (.ofNat 16)) .nil)), (.int .i32 (.ofNat 962)), []⟩
theorem k116Ok : Am.OneOk Tryz.prog [] k116 :=
  Am.one_of_run (orc := orc0) (N := 999) (R := []) mixed progOk (extOk _) orc0Ok (by kernel_rfl) (by kernel_rfl) (by kernel_rfl) (by kernel_rfl)
noncomputable def k119 : Am.Known := ⟨40, (.cons (.str ⟨3, 3367219⟩) (.cons (.int .i64 (.ofNat 16)) .nil)), (.int .i32 (.ofNat 931)), []⟩
theorem k119Ok : Am.OneOk Tryz.prog [] k119 :=
  Am.one_of_run (orc := orc0) (N := 999) (R := []) mixed progOk (extOk _) orc0Ok (by kernel_rfl) (by kernel_rfl) (by kernel_rfl) (by kernel_rfl)
noncomputable def k121 : Am.Known := ⟨40, (.cons (.str ⟨3, 3367731⟩) (.cons (.int .i64 (.ofNat 16)) .nil)), (.int .i32 (.ofNat 963)), []⟩
theorem k121Ok : Am.OneOk Tryz.prog [] k121 :=
  Am.one_of_run (orc := orc0) (N := 999) (R := []) mixed progOk (extOk _) orc0Ok (by kernel_rfl) (by kernel_rfl) (by kernel_rfl) (by kernel_rfl)
noncomputable def k123 : Am.Known := ⟨40, (.cons (.str ⟨3, 3487799⟩) (.cons (.int .i64 (.ofNat 16)) .nil)), (.int .i32 (.ofNat 1415)), []⟩
theorem k123Ok : Am.OneOk Tryz.prog [] k123 :=
  Am.one_of_run (orc := orc0) (N := 999) (R := []) mixed progOk (extOk _) orc0Ok (by kernel_rfl) (by kernel_rfl) (by kernel_rfl) (by kernel_rfl)
noncomputable def k126 : Am.Known := ⟨40, (.cons (.str ⟨3, 3486517⟩) (.cons (.int .i64 (.ofNat 16)) .nil)), (.int .i32 (.ofNat 1333)), []⟩
theorem k126Ok : Am.OneOk Tryz.prog [] k126 :=
  Am.one_of_run (orc := orc0) (N := 999) (R := []) mixed progOk (extOk _) orc0Ok (by kernel_rfl) (by kernel_rfl) (by kernel_rfl) (by kernel_rfl)
noncomputable def k127 : Am.Known := ⟨40, (.cons (.str ⟨3, 3487026⟩) (.cons (.int .i64 (.ofNat 16)) .nil)), (.int .i32 (.ofNat 1362)), []⟩
theorem k127Ok : Am.OneOk Tryz.prog [] k127 :=
  Am.one_of_run (orc := orc0) (N := 999) (R := []) mixed progOk (extOk _) orc0Ok (by kernel_rfl) (by kernel_rfl) (by kernel_rfl) (by kernel_rfl)
noncomputable def k129 : Am.Known := ⟨40, (.cons (.str ⟨3, 3487794⟩) (.cons (.int .i64 (.ofNat 16)) .nil)), (.int .i32 (.ofNat 1410)), []⟩
theorem k129Ok : Am.OneOk Tryz.prog [] k129 :=
  Am.one_of_run (orc := orc0) (N := 999) (R := []) mixed progOk (extOk _) orc0Ok (by kernel_rfl) (by kernel_rfl) (by kernel_rfl) (by kernel_rfl)
noncomputable def k131 : Am.Known := ⟨40, (.cons (.str ⟨3, 3487285⟩) (.cons (.int .i64 (.ofNat 16)) .nil)), (.int .i32 (.ofNat 1381)), []⟩
theorem k131Ok : Am.OneOk Tryz.prog [] k131 :=
  Am.one_of_run (orc := orc0) (N := 999) (R := []) mixed progOk (extOk _) orc0Ok (by kernel_rfl) (by kernel_rfl) (by kernel_rfl) (by kernel_rfl)
noncomputable def k133 : Am.Known := ⟨40, (.cons (.str ⟨4, 828717413⟩) (.cons (.int .i64 (.ofNat 16)) .nil)), (.int .i32 (.ofNat 7838)), []⟩
theorem k133Ok : Am.OneOk Tryz.prog [] k133 :=
  Am.one_of_run (orc := orc0) (N := 999) (R := []) mixed progOk (extOk _) orc0Ok (by kernel_rfl) (by kernel_rfl) (by kernel_rfl) (by kernel_rfl)
noncomputable def k136 : Am.Known := ⟨40, (.cons (.str ⟨4, 1717710896⟩) (.cons (.int .i64 (.ofNat 16)) .nil)), (.int .i32 (.ofNat 64256)), []⟩
theorem k136Ok : Am.OneOk Tryz.prog [] k136 :=
  Am.one_of_run (orc := orc0) (N := 999) (R := []) mixed progOk (extOk _) orc0Ok (by kernel_rfl) (by kernel_rfl) (by kernel_rfl) (by kernel_rfl)
noncomputable def k139 : Am.Known := ⟨40, (.cons (.str ⟨2, 13366⟩) (.cons (.int .i64 (.ofNat 16)) .nil)), (.int .i32 (.ofNat 70)), []⟩
theorem k139Ok : Am.OneOk Tryz.prog [] k139 :=
  Am.one_of_run (orc := orc0) (N := 999) (R := []) mixed progOk (extOk _) orc0Ok (by kernel_rfl) (by kernel_rfl) (by kernel_rfl) (by kernel_rfl)
noncomputable def k141 : Am.Known := ⟨40, (.cons (.str ⟨2, 13878⟩) (.cons (.int .i64 (.ofNat 16)) .nil)), (.int .i32 (.ofNat 102)), []⟩
theorem k141Ok : Am.OneOk Tryz.prog [] k141 :=
  Am.one_of_run (orc := orc0) (N := 999) (R := []) mixed progOk (extOk _) orc0Ok (by kernel_rfl) (by kernel_rfl) (by kernel_rfl) (by kernel_rfl)
noncomputable def k144 : Am.Known := ⟨40, (.cons (.str ⟨4, 1717710897⟩) (.cons (.int .i64 (.ofNat 16)) .nil)), (.int .i32 (.ofNat 64257)), []⟩
theorem k144Ok : Am.OneOk Tryz.prog [] k144 :=
  Am.one_of_run (orc := orc0) (N := 999) (R := []) mixed progOk (extOk _) orc0Ok (by kernel_rfl) (by kernel_rfl) (by kernel_rfl) (by kernel_rfl)
noncomputable def k150 : Am.Known := ⟨40, (.cons (.str ⟨4, 1717710898⟩) (.cons (.int .i64 (.ofNat 16)) .nil)), (.int .i32 (.ofNat 64258)), []⟩
theorem k150Ok : Am.OneOk Tryz.prog [] k150 :=
  Am.one_of_run (orc := orc0) (N := 999) (R := []) mixed progOk (extOk _) orc0Ok (by kernel_rfl) (by kernel_rfl) (by kernel_rfl) (by kernel_rfl)
noncomputable def k153 : Am.Known := ⟨40, (.cons (.str ⟨2, 13411⟩) (.cons (.int .i64 (.ofNat 16)) .nil)), (.int .i32 (.ofNat 76)), []⟩
theorem k153Ok : Am.OneOk Tryz.prog [] k153 :=
  Am.one_of_run (orc := orc0) (N := 999) (R := []) mixed progOk (extOk _) orc0Ok (by kernel_rfl) (by kernel_rfl) (by kernel_rfl) (by kernel_rfl)
noncomputable def k155 : Am.Known := ⟨40, (.cons (.str ⟨2, 13923⟩) (.cons (.int .i64 (.ofNat 16)) .nil)), (.int .i32 (.ofNat 108)), []⟩
theorem k155Ok : Am.OneOk Tryz.prog [] k155 :=
  Am.one_of_run (orc := orc0) (N := 999) (R := []) mixed progOk (extOk _) orc0Ok (by kernel_rfl) (by kernel_rfl) (by kernel_rfl) (by kernel_rfl)
noncomputable def k158 : Am.Known := ⟨40, (.cons (.str ⟨4, 1717710899⟩) (.cons (.int .i64 (.ofNat 16)) .nil)), (.int .i32 (.ofNat 64259)), []⟩
theorem k158Ok : Am.OneOk Tryz.prog [] k158 :=
  Am.one_of_run (orc := orc0) (N := 999) (R := []) mixed progOk (extOk _) orc0Ok (by kernel_rfl) (by kernel_rfl) (by kernel_rfl) (by kernel_rfl)
noncomputable def k164 : Am.Known := ⟨93, (.cons (.str ⟨11, 102962645342072630576956242⟩) (.cons (.int .u8 (.ofNat 35)) .nil)), (.int .i64 (.negSucc 0)), []⟩
theorem k164Ok : Am.OneOk Tryz.prog [] k164 :=
  Am.one_of_run (orc := orc0) (N := 999) (R := []) mixed progOk (extOk _) orc0Ok (by kernel_rfl) (by kernel_rfl) (by kernel_rfl) (by kernel_rfl)
noncomputable def k165 : Am.Known := ⟨93, (.cons (.str ⟨11, 102962645342072630576956242⟩) (.cons (.int .u8 (.ofNat 59)) .nil)), (.int .i64 (.ofNat 7)), []⟩
theorem k165Ok : Am.OneOk Tryz.prog [] k165 :=
  Am.one_of_run (orc := orc0) (N := 999) (R := []) mixed progOk (extOk _) orc0Ok (by kernel_rfl) (by kernel_rfl) (by kernel_rfl) (by kernel_rfl)
noncomputable def k166 : Am.Known := ⟨96, (.cons (.str ⟨7, 23972858987299872⟩) .nil), (.tup (.cons (.slice 64 0 1 2 false) (.cons (.int .i64 (.ofNat 0)) (.cons (.int .i64 (.ofNat 0)) .nil)))), [.cells 165 (.cons (.int .i32 (.ofNat 13)) (.cons (.int .i32 (.ofNat 13)) .nil))]⟩
theorem k166Ok : Am.OneOk Tryz.prog [] k166 :=
  Am.one_of_run (orc := orc0) (N := 999) (R := [77]) mixed progOk (extOk _) orc0Ok (by kernel_rfl) (by kernel_rfl) (by kernel_rfl) (by kernel_rfl)
noncomputable def k167 : Am.Known := ⟨93, (.cons (.str ⟨11, 102962645342069332042075206⟩) (.cons (.int .u8 (.ofNat 35)) .nil)), (.int .i64 (.negSucc 0)), []⟩
theorem k167Ok : Am.OneOk Tryz.prog [] k167 :=
  Am.one_of_run (orc := orc0) (N := 999) (R := []) mixed progOk (extOk _) orc0Ok (by kernel_rfl) (by kernel_rfl) (by kernel_rfl) (by kernel_rfl)
noncomputable def k168 : Am.Known := ⟨93, (.cons (.str ⟨11, 102962645342069332042075206⟩) (.cons (.int .u8 (.ofNat 59)) .nil)), (.int .i64 (.ofNat 7)), []⟩
theorem k168Ok : Am.OneOk Tryz.prog [] k168 :=
  Am.one_of_run (orc := orc0) (N := 999) (R := []) mixed progOk (extOk _) orc0Ok (by kernel_rfl) (by kernel_rfl) (by kernel_rfl) (by kernel_rfl)
noncomputable def k169 : Am.Known := ⟨96, (.cons (.str ⟨7, 23972858987299104⟩) .nil), (.tup (.cons (.slice 64 0 1 2 false) (.cons (.int .i64 (.ofNat 0)) (.cons (.int .i64 (.ofNat 0)) .nil)))), [.cells 165 (.cons (.int .i32 (.ofNat 10)) (.cons (.int .i32 (.ofNat 10)) .nil))]⟩
theorem k169Ok : Am.OneOk Tryz.prog [] k169 :=
  Am.one_of_run (orc := orc0) (N := 999) (R := [77]) mixed progOk (extOk _) orc0Ok (by kernel_rfl) (by kernel_rfl) (by kernel_rfl) (by kernel_rfl)
noncomputable def k170 : Am.Known := ⟨93, (.cons (.str ⟨100, 2218383389827535999682072645889753502715423754961004483166999509250562126192633762705760822490343369359523707118587249356008446815588166199628637170791131840540284790014827761410138708866286031978678543604298815074230553509586412489038524268⟩) (.cons (.int .u8 (.ofNat 35)) .nil)), (.int .i64 (.negSucc 0)), []⟩
theorem k170Ok : Am.OneOk Tryz.prog [] k170 :=
  Am.one_of_run (orc := orc0) (N := 999) (R := []) mixed progOk (extOk _) orc0Ok (by kernel_rfl) (by kernel_rfl) (by kernel_rfl) (by kernel_rfl)
noncomputable def k171 : Am.Known := ⟨93, (.cons (.str ⟨100, 2218383389827535999682072645889753502715423754961004483166999509250562126192633762705760822490343369359523707118587249356008446815588166199628637170791131840540284790014827761410138708866286031978678543604298815074230553509586412489038524268⟩) (.cons (.int .u8 (.ofNat 59)) .nil)), (.int .i64 (.ofNat 91)), []⟩
theorem k171Ok : Am.OneOk Tryz.prog [] k171 :=
  Am.one_of_run (orc := orc0) (N := 999) (R := []) mixed progOk (extOk _) orc0Ok (by kernel_rfl) (by kernel_rfl) (by kernel_rfl) (by kernel_rfl)
noncomputable def k172 : Am.Known := ⟨96, (.cons (.str ⟨91, 469760955206400821943993528307284645140972812491659484381873977297474422641988878546799363655160011957918869301844451576508380443265989536029770274098269863822124765069717698110307370455107038306097130752513103649719840⟩) .nil), (.tup (.cons (.slice 64 0 8 2 false) (.cons (.int .i64 (.ofNat 0)) (.cons (.int .i64 (.ofNat 0)) .nil)))), [.cells 165 (.cons (.int .i32 (.ofNat 0)) (.cons (.int .i32 (.ofNat 9)) (.cons (.int .i32 (.ofNat 11)) (.cons (.int .i32 (.ofNat 12)) (.cons (.int .i32 (.ofNat 14)) (.cons (.int .i32 (.ofNat 31)) (.cons (.int .i32 (.ofNat 127)) (.cons (.int .i32 (.ofNat 159)) (.cons (.int .i32 (.ofNat 173)) (.cons (.int .i32 (.ofNat 173)) (.cons (.int .i32 (.ofNat 8203)) (.cons (.int .i32 (.ofNat 8203)) (.cons (.int .i32 (.ofNat 8232)) (.cons (.int .i32 (.ofNat 8233)) (.cons (.int .i32 (.ofNat 65279)) (.cons (.int .i32 (.ofNat 65279)) .nil))))))))))))))))]⟩
theorem k172Ok : Am.OneOk Tryz.prog [] k172 :=
  Am.one_of_run (orc := orc0) (N := 999) (R := [166]) mixed progOk (extOk _) orc0Ok (by kernel_rfl) (by kernel_rfl) (by kernel_rfl) (by kernel_rfl)
noncomputable def k173 : Am.Known := ⟨93, (.cons (.str ⟨173, 140460455828292047064114065889635674980927719953707902839235398779582239131983230566235076690419991610576496175327210257911824660433377352989201720536096093583825597717627264814574385041887878811032054317214109010827443510864816183881870269510436020537031983994900186210581690089765075388829001525549120998343012266261460973450087498736612376586148428888485490437327969571823250200948682770573900705312509156840009316⟩) (.cons (.int .u8 (.ofNat 35)) .nil)), (.int .i64 (.negSucc 0)), []⟩
theorem k173Ok : Am.OneOk Tryz.prog [] k173 :=
  Am.one_of_run (orc := orc0) (N := 999) (R := []) mixed progOk (extOk _) orc0Ok (by kernel_rfl) (by kernel_rfl) (by kernel_rfl) (by kernel_rfl)
noncomputable def k174 : Am.Known := ⟨93, (.cons (.str ⟨173, 140460455828292047064114065889635674980927719953707902839235398779582239131983230566235076690419991610576496175327210257911824660433377352989201720536096093583825597717627264814574385041887878811032054317214109010827443510864816183881870269510436020537031983994900186210581690089765075388829001525549120998343012266261460973450087498736612376586148428888485490437327969571823250200948682770573900705312509156840009316⟩) (.cons (.int .u8 (.ofNat 59)) .nil)), (.int .i64 (.ofNat 165)), []⟩
theorem k174Ok : Am.OneOk Tryz.prog [] k174 :=
  Am.one_of_run (orc := orc0) (N := 999) (R := []) mixed progOk (extOk _) orc0Ok (by kernel_rfl) (by kernel_rfl) (by kernel_rfl) (by kernel_rfl)
end Go.Proofs.YtfmnninijakknaaGreatDoor.searchPieces
