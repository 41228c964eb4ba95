/- CursorNames's closed run: calls whose results are known. -/
import Derived.Test.YtofmmjfbmiinoaaGreatDoorTB
namespace Go.Proofs.YtofmmjfbmiinoaaGreatDoor.cursorNames
noncomputable def k41 : Am.Known := ⟨16, (.cons (.str ⟨1, 101⟩) .nil), (.slice 64 0 2 1 false), [.cells 3 (.cons (.int .i64 (.ofNat 0)) (.cons (.int .i64 (.ofNat 1)) .nil))]⟩
theorem k41Ok : Am.OneOk Tryz.prog [] k41 :=
  Am.one_of_run (orc := orcB) (N := 999) (R := [96]) mixed progOk (extOk _) orcBOk (by kernel_rfl) (by kernel_rfl) (by kernel_rfl) (by kernel_rfl)
noncomputable def k42 : Am.Known := ⟨16, (.cons (.str ⟨4, 1707901304⟩) .nil), (.slice 64 0 3 1 false), [.cells 3 (.cons (.int .i64 (.ofNat 0)) (.cons (.int .i64 (.ofNat 3)) (.cons (.int .i64 (.ofNat 4)) .nil)))]⟩
theorem k42Ok : Am.OneOk Tryz.prog [] k42 :=
  Am.one_of_run (orc := orcB) (N := 999) (R := [116]) mixed progOk (extOk _) orcBOk (by kernel_rfl) (by kernel_rfl) (by kernel_rfl) (by kernel_rfl)
noncomputable def k43 : Am.Known := ⟨16, (.cons (.str ⟨5, 418258117476⟩) .nil), (.slice 64 0 6 1 false), [.cells 3 (.cons (.int .i64 (.ofNat 0)) (.cons (.int .i64 (.ofNat 1)) (.cons (.int .i64 (.ofNat 2)) (.cons (.int .i64 (.ofNat 3)) (.cons (.int .i64 (.ofNat 4)) (.cons (.int .i64 (.ofNat 5)) .nil))))))]⟩
theorem k43Ok : Am.OneOk Tryz.prog [] k43 :=
  Am.one_of_run (orc := orcB) (N := 999) (R := [140]) mixed progOk (extOk _) orcBOk (by kernel_rfl) (by kernel_rfl) (by kernel_rfl) (by kernel_rfl)
noncomputable def k98 : Am.Known := ⟨94, (.cons (.str ⟨5, 418258117476⟩) .nil), (.slice 64 0 4 1 false), [.cells 3 (.cons (.int .i64 (.ofNat 0)) (.cons (.int .i64 (.ofNat 2)) (.cons (.int .i64 (.ofNat 3)) (.cons (.int .i64 (.ofNat 5)) .nil))))]⟩
theorem k98Ok : Am.OneOk Tryz.prog [] k98 :=
  Am.one_of_run (orc := orcB) (N := 999) (R := [183]) mixed progOk (extOk _) orcBOk (by kernel_rfl) (by kernel_rfl) (by kernel_rfl) (by kernel_rfl)
noncomputable def k99 : Am.Known := ⟨95, (.cons (.str ⟨2, 24930⟩) .nil), (.int .i64 (.ofNat 4)), []⟩
theorem k99Ok : Am.OneOk Tryz.prog [] k99 :=
  Am.one_of_run (orc := orcB) (N := 999) (R := []) mixed progOk (extOk _) orcBOk (by kernel_rfl) (by kernel_rfl) (by kernel_rfl) (by kernel_rfl)
noncomputable def k100 : Am.Known := ⟨16, (.cons (.str ⟨9, 1796423696813025224295⟩) .nil), (.slice 64 0 10 1 false), [.cells 3 (.cons (.int .i64 (.ofNat 0)) (.cons (.int .i64 (.ofNat 1)) (.cons (.int .i64 (.ofNat 2)) (.cons (.int .i64 (.ofNat 3)) (.cons (.int .i64 (.ofNat 4)) (.cons (.int .i64 (.ofNat 5)) (.cons (.int .i64 (.ofNat 6)) (.cons (.int .i64 (.ofNat 7)) (.cons (.int .i64 (.ofNat 8)) (.cons (.int .i64 (.ofNat 9)) .nil))))))))))]⟩
theorem k100Ok : Am.OneOk Tryz.prog [] k100 :=
  Am.one_of_run (orc := orcB) (N := 999) (R := [184]) mixed progOk (extOk _) orcBOk (by kernel_rfl) (by kernel_rfl) (by kernel_rfl) (by kernel_rfl)
noncomputable def k101 : Am.Known := ⟨16, (.cons (.str ⟨3, 6382179⟩) .nil), (.slice 64 0 4 1 false), [.cells 3 (.cons (.int .i64 (.ofNat 0)) (.cons (.int .i64 (.ofNat 1)) (.cons (.int .i64 (.ofNat 2)) (.cons (.int .i64 (.ofNat 3)) .nil))))]⟩
theorem k101Ok : Am.OneOk Tryz.prog [] k101 :=
  Am.one_of_run (orc := orcB) (N := 999) (R := [118]) mixed progOk (extOk _) orcBOk (by kernel_rfl) (by kernel_rfl) (by kernel_rfl) (by kernel_rfl)
noncomputable def k102 : Am.Known := ⟨16, (.cons (.str ⟨1, 100⟩) .nil), (.slice 64 0 2 1 false), [.cells 3 (.cons (.int .i64 (.ofNat 0)) (.cons (.int .i64 (.ofNat 1)) .nil))]⟩
theorem k102Ok : Am.OneOk Tryz.prog [] k102 :=
  Am.one_of_run (orc := orcB) (N := 999) (R := [96]) mixed progOk (extOk _) orcBOk (by kernel_rfl) (by kernel_rfl) (by kernel_rfl) (by kernel_rfl)
noncomputable def k103 : Am.Known := ⟨16, (.cons (.str ⟨3, 6645351⟩) .nil), (.slice 64 0 4 1 false), [.cells 3 (.cons (.int .i64 (.ofNat 0)) (.cons (.int .i64 (.ofNat 1)) (.cons (.int .i64 (.ofNat 2)) (.cons (.int .i64 (.ofNat 3)) .nil))))]⟩
theorem k103Ok : Am.OneOk Tryz.prog [] k103 :=
  Am.one_of_run (orc := orcB) (N := 999) (R := [118]) mixed progOk (extOk _) orcBOk (by kernel_rfl) (by kernel_rfl) (by kernel_rfl) (by kernel_rfl)
noncomputable def k117 : Am.Known := ⟨16, (.cons (.str ⟨2, 24930⟩) .nil), (.slice 64 0 3 1 false), [.cells 3 (.cons (.int .i64 (.ofNat 0)) (.cons (.int .i64 (.ofNat 1)) (.cons (.int .i64 (.ofNat 2)) .nil)))]⟩
theorem k117Ok : Am.OneOk Tryz.prog [] k117 :=
  Am.one_of_run (orc := orcB) (N := 999) (R := [107]) mixed progOk (extOk _) orcBOk (by kernel_rfl) (by kernel_rfl) (by kernel_rfl) (by kernel_rfl)
end Go.Proofs.YtofmmjfbmiinoaaGreatDoor.cursorNames
