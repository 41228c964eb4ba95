/- SearchLeft: a world in which the listed variables hold what the row lists. -/
import Derived.Test.YtmpkgddioiaonaaGreatDoorLaidW
import Derived.Lib.LaidIn
namespace Go.Proofs.YtmpkgddioiaonaaGreatDoor.searchLeft
open Go.ChangeShapes Go.WideShapes Go.ChangeAt Go.RowKit

theorem laid0 (os : Os) : LaidIn Tryz.prog ((laidWorld os).forCall (fun _ _ => 0) ⟨#[], #[.string ⟨#[]⟩, .string ⟨#[]⟩, .agg #[.bool false, .bool false, .bool false]], []⟩).memory [("math/bits.deBruijn32tab", Rows.laid_math_bits_deBruijn32tab)] [8] :=
 LaidIn.of_run [8] 8 (by kernel_rfl) (by kernel_rfl) (by kernel_rfl) (by kernel_rfl)
theorem laid1 (os : Os) : LaidIn Tryz.prog ((laidWorld os).forCall (fun _ _ => 0) ⟨#[], #[.string ⟨#[]⟩, .string ⟨#[]⟩, .agg #[.bool false, .bool false, .bool false]], []⟩).memory [("math/bits.deBruijn64tab", Rows.laid_math_bits_deBruijn64tab)] [9] :=
 LaidIn.of_run [9] 8 (by kernel_rfl) (by kernel_rfl) (by kernel_rfl) (by kernel_rfl)
theorem laid2 (os : Os) : LaidIn Tryz.prog ((laidWorld os).forCall (fun _ _ => 0) ⟨#[], #[.string ⟨#[]⟩, .string ⟨#[]⟩, .agg #[.bool false, .bool false, .bool false]], []⟩).memory [("internal/strconv.uint64pow10", Rows.laid_internal_strconv_uint64pow10)] [7] :=
 LaidIn.of_run [7] 8 (by kernel_rfl) (by kernel_rfl) (by kernel_rfl) (by kernel_rfl)
theorem laid3 (os : Os) : LaidIn Tryz.prog ((laidWorld os).forCall (fun _ _ => 0) ⟨#[], #[.string ⟨#[]⟩, .string ⟨#[]⟩, .agg #[.bool false, .bool false, .bool false]], []⟩).memory [("unicode/utf8.acceptRanges", Rows.laid_unicode_utf8_acceptRanges)] [2] :=
 LaidIn.of_run [2] 8 (by kernel_rfl) (by kernel_rfl) (by kernel_rfl) (by kernel_rfl)
theorem laid4 (os : Os) : LaidIn Tryz.prog ((laidWorld os).forCall (fun _ _ => 0) ⟨#[], #[.string ⟨#[]⟩, .string ⟨#[]⟩, .agg #[.bool false, .bool false, .bool false]], []⟩).memory [("strconv.ErrRange", Rows.laid_strconv_ErrRange)] [6, low + 0] :=
 LaidIn.of_run [6, low + 0] 8 (by kernel_rfl) (by kernel_rfl) (by kernel_rfl) (by kernel_rfl)
theorem laid5 (os : Os) : LaidIn Tryz.prog ((laidWorld os).forCall (fun _ _ => 0) ⟨#[], #[.string ⟨#[]⟩, .string ⟨#[]⟩, .agg #[.bool false, .bool false, .bool false]], []⟩).memory [("strconv.ErrSyntax", Rows.laid_strconv_ErrSyntax)] [5, low + 1] :=
 LaidIn.of_run [5, low + 1] 8 (by kernel_rfl) (by kernel_rfl) (by kernel_rfl) (by kernel_rfl)
theorem laid6 (os : Os) : LaidIn Tryz.prog ((laidWorld os).forCall (fun _ _ => 0) ⟨#[], #[.string ⟨#[]⟩, .string ⟨#[]⟩, .agg #[.bool false, .bool false, .bool false]], []⟩).memory [("unicode.White_Space", Rows.laid_unicode_White_Space)] [3, low + 2, low + 3] :=
 LaidIn.of_run [3, low + 2, low + 3] 8 (by kernel_rfl) (by kernel_rfl) (by kernel_rfl) (by kernel_rfl)
theorem laid7 (os : Os) : LaidIn Tryz.prog ((laidWorld os).forCall (fun _ _ => 0) ⟨#[], #[.string ⟨#[]⟩, .string ⟨#[]⟩, .agg #[.bool false, .bool false, .bool false]], []⟩).memory [("strings.asciiSpace", Rows.laid_strings_asciiSpace)] [0] :=
 LaidIn.of_run [0] 8 (by kernel_rfl) (by kernel_rfl) (by kernel_rfl) (by kernel_rfl)
theorem laid8 (os : Os) : LaidIn Tryz.prog ((laidWorld os).forCall (fun _ _ => 0) ⟨#[], #[.string ⟨#[]⟩, .string ⟨#[]⟩, .agg #[.bool false, .bool false, .bool false]], []⟩).memory [("unicode/utf8.first", Rows.laid_unicode_utf8_first)] [1] :=
 LaidIn.of_run [1] 8 (by kernel_rfl) (by kernel_rfl) (by kernel_rfl) (by kernel_rfl)
theorem laid_met (os : Os) : laidMet Tryz.prog Rows.searchLeftRow.laid ((laidWorld os).forCall (fun _ _ => 0) ⟨#[], #[.string ⟨#[]⟩, .string ⟨#[]⟩, .agg #[.bool false, .bool false, .bool false]], []⟩).memory :=
 (LaidIn.append (laid0 os) (LaidIn.append (laid1 os) (LaidIn.append (laid2 os) (LaidIn.append (laid3 os) (LaidIn.append (laid4 os) (LaidIn.append (laid5 os) (LaidIn.append (laid6 os) (LaidIn.append (laid7 os) (laid8 os) (by kernel_rfl)) (by kernel_rfl)) (by kernel_rfl)) (by kernel_rfl)) (by kernel_rfl)) (by kernel_rfl)) (by kernel_rfl)) (by kernel_rfl)).met
end Go.Proofs.YtmpkgddioiaonaaGreatDoor.searchLeft
