/- FoldTitles: a world in which the listed variables hold what the row lists. -/
import Derived.Test.YtocaiijbhepnnaaGreatDoorCards
import Derived.Test.YtocaiijbhepnnaaGreatDoorTie
import Derived.ProofKit
import Derived.OpenShut
import Derived.Deep.DeepHandedRow
import Derived.Lib.LaidU8
import Derived.Lib.LaidIn
namespace Go.Proofs.YtocaiijbhepnnaaGreatDoor.foldTitles
open Go.ChangeShapes Go.WideShapes Go.ChangeAt Go.RowKit
noncomputable def low:Nat:=(World.holding Tryz.prog default ⟨#[],#[],[]⟩).heap.size
def setAt (l:List Value):Obj->Obj
 | .cells _ t frozen=> .cells l.toArray t frozen
 |o=>o
noncomputable def fE (os:Os):World:=
 let w0:=World.holding Tryz.prog os ⟨#[.cells #[.string ⟨#[118,97,108,117,101,32,111,117,116,32,111,102,32,114,97,110,103,101]⟩] 375, .cells #[.string ⟨#[105,110,118,97,108,105,100,32,115,121,110,116,97,120]⟩] 375, .cells (([9,13,1,32,133,101,160,5760,5600,8192,8202,1,8232,8233,1,8239,8287,48,12288,12288,1]:List Nat).map λn=> .int .u16 (.ofNat n)).toArray 302, .cells #[.slice (some ⟨low+2,0,none⟩) 7 7, .slice none 0 0, .int .i64 2] 299],#[],[]⟩
 {w0 with heap:=(((((((((w0.heap.modify 8
  (setAt ([0,1,28,2,29,14,24,3,30,22,20,15,25,17,4,8,31,27,13,23,21,19,16,7,26,12,18,6,11,5,10,9].map λn=> .int .u8 (.ofNat n)))).modify 9
  (setAt ([0,1,56,2,57,49,28,3,61,58,42,50,38,29,17,4,62,47,59,36,45,43,51,22,53,39,33,30,24,18,12,5,63,55,48,27,60,41,37,16,46,35,44,21,52,32,23,11,54,26,40,15,34,20,31,10,25,14,19,9,13,8,7,6].map λn=> .int .u8 (.ofNat n)))).modify 7
  (setAt ([1,10,100,1000,10000,100000,1000000,10000000,100000000,1000000000,10000000000,100000000000,0xe8d4a51000,0x9184e72a000,0x5af3107a4000,0x38d7ea4c68000,0x2386f26fc10000,0x16345785d8a0000,0xde0b6b3a7640000,0x8ac7230489e80000].map λn=> .int .u64 (.ofNat n)))).modify 3
  (setAt ([128,191,160,191,128,159,144,191,128,143,0,0,0,0,0,0,0,0,0,0,0,0,0,0,0,0,0,0,0,0,0,0].map λn=> .int .u8 (.ofNat n)))).modify 6
  (setAt [.iface 373 (.pointer (some ⟨low+0,0,none⟩))])).modify 5
  (setAt [.iface 373 (.pointer (some ⟨low+1,0,none⟩))])).modify 1
  (setAt [.pointer (some ⟨low+3,0,none⟩)])).modify 0
  (setAt ([0,0,0,0,0,0,0,0,0,1,1,1,1,1,0,0,0,0,0,0,0,0,0,0,0,0,0,0,0,0,0,0,1,0,0,0,0,0,0,0,0,0,0,0,0,0,0,0,0,0,0,0,0,0,0,0,0,0,0,0,0,0,0,0,0,0,0,0,0,0,0,0,0,0,0,0,0,0,0,0,0,0,0,0,0,0,0,0,0,0,0,0,0,0,0,0,0,0,0,0,0,0,0,0,0,0,0,0,0,0,0,0,0,0,0,0,0,0,0,0,0,0,0,0,0,0,0,0,0,0,0,0,0,0,0,0,0,0,0,0,0,0,0,0,0,0,0,0,0,0,0,0,0,0,0,0,0,0,0,0,0,0,0,0,0,0,0,0,0,0,0,0,0,0,0,0,0,0,0,0,0,0,0,0,0,0,0,0,0,0,0,0,0,0,0,0,0,0,0,0,0,0,0,0,0,0,0,0,0,0,0,0,0,0,0,0,0,0,0,0,0,0,0,0,0,0,0,0,0,0,0,0,0,0,0,0,0,0,0,0,0,0,0,0,0,0,0,0,0,0,0,0,0,0,0,0].map λn=> .int .u8 (.ofNat n)))).modify 2
  (setAt (Go.Pinned.utf8FirstZ.map λn=> .int .u8 (.ofNat n))))}
open Go.ChangeShapes Go.WideShapes Go.ChangeAt Go.RowKit
theorem afz (os:Os):LaidIn Tryz.prog ((fE os).forCall (λ_ _=>0) ⟨#[],#[.string ⟨#[]⟩],[]⟩).memory [("math/bits.deBruijn32tab",Rows.laid_math_bits_deBruijn32tab)] [8]:=
 LaidIn.of_run [8] 8 (by kernel_rfl) (by kernel_rfl) (by kernel_rfl) (by kernel_rfl)
theorem afA (os:Os):LaidIn Tryz.prog ((fE os).forCall (λ_ _=>0) ⟨#[],#[.string ⟨#[]⟩],[]⟩).memory [("math/bits.deBruijn64tab",Rows.laid_math_bits_deBruijn64tab)] [9]:=
 LaidIn.of_run [9] 8 (by kernel_rfl) (by kernel_rfl) (by kernel_rfl) (by kernel_rfl)
theorem afB (os:Os):LaidIn Tryz.prog ((fE os).forCall (λ_ _=>0) ⟨#[],#[.string ⟨#[]⟩],[]⟩).memory [("internal/strconv.uint64pow10",Rows.laid_internal_strconv_uint64pow10)] [7]:=
 LaidIn.of_run [7] 8 (by kernel_rfl) (by kernel_rfl) (by kernel_rfl) (by kernel_rfl)
theorem afC (os:Os):LaidIn Tryz.prog ((fE os).forCall (λ_ _=>0) ⟨#[],#[.string ⟨#[]⟩],[]⟩).memory [("unicode/utf8.acceptRanges",Rows.laid_unicode_utf8_acceptRanges)] [3]:=
 LaidIn.of_run [3] 8 (by kernel_rfl) (by kernel_rfl) (by kernel_rfl) (by kernel_rfl)
theorem afD (os:Os):LaidIn Tryz.prog ((fE os).forCall (λ_ _=>0) ⟨#[],#[.string ⟨#[]⟩],[]⟩).memory [("strconv.ErrRange",Rows.laid_strconv_ErrRange)] [6,low+0]:=
 LaidIn.of_run [6,low+0] 8 (by kernel_rfl) (by kernel_rfl) (by kernel_rfl) (by kernel_rfl)
theorem afE (os:Os):LaidIn Tryz.prog ((fE os).forCall (λ_ _=>0) ⟨#[],#[.string ⟨#[]⟩],[]⟩).memory [("strconv.ErrSyntax",Rows.laid_strconv_ErrSyntax)] [5,low+1]:=
 LaidIn.of_run [5,low+1] 8 (by kernel_rfl) (by kernel_rfl) (by kernel_rfl) (by kernel_rfl)
theorem afF (os:Os):LaidIn Tryz.prog ((fE os).forCall (λ_ _=>0) ⟨#[],#[.string ⟨#[]⟩],[]⟩).memory [("unicode.White_Space",Rows.laid_unicode_White_Space)] [1,low+2,low+3]:=
 LaidIn.of_run [1,low+2,low+3] 8 (by kernel_rfl) (by kernel_rfl) (by kernel_rfl) (by kernel_rfl)
theorem afG (os:Os):LaidIn Tryz.prog ((fE os).forCall (λ_ _=>0) ⟨#[],#[.string ⟨#[]⟩],[]⟩).memory [("strings.asciiSpace",Rows.laid_strings_asciiSpace)] [0]:=
 LaidIn.of_run [0] 8 (by kernel_rfl) (by kernel_rfl) (by kernel_rfl) (by kernel_rfl)
theorem afH (os:Os):LaidIn Tryz.prog ((fE os).forCall (λ_ _=>0) ⟨#[],#[.string ⟨#[]⟩],[]⟩).memory [("unicode/utf8.first",Rows.laid_unicode_utf8_first)] [2]:=
 LaidIn.of_run [2] 8 (by kernel_rfl) (by kernel_rfl) (by kernel_rfl) (by kernel_rfl)
theorem WM (os:Os):laidMet Tryz.prog Rows.foldTitlesRow.laid ((fE os).forCall (λ_ _=>0) ⟨#[],#[.string ⟨#[]⟩],[]⟩).memory:=
 (LaidIn.append (afz os) (LaidIn.append (afA os) (LaidIn.append (afB os) (LaidIn.append (afC os) (LaidIn.append (afD os) (LaidIn.append (afE os) (LaidIn.append (afF os) (LaidIn.append (afG os) (afH os) (by kernel_rfl)) (by kernel_rfl)) (by kernel_rfl)) (by kernel_rfl)) (by kernel_rfl)) (by kernel_rfl)) (by kernel_rfl)) (by kernel_rfl)).met
theorem Zo:(Rows.foldTitlesRow.inPlace==Tryz.pinned.checked.prog.inPlace 3)=true:=by kernel_rfl
theorem Zp:(Rows.foldTitlesRow.unfollowed==Tryz.pinned.checked.prog.unfollowed 3)=true:=by kernel_rfl
theorem Zq:(Rows.foldTitlesRow.recurses==Tryz.pinned.checked.prog.recurses 3)=true:=by kernel_rfl
theorem Zr:(Rows.foldTitlesRow.named==Tryz.pinned.checked.prog.varsNamed 3)=true:=by kernel_rfl
theorem joined:joinedFacts Tryz.pinned.checked.prog 3 Tryz.f3 (OpenSpec.ofChange Rows.foldTitlesSpec).bare Rows.foldTitlesRow=true:=by unfold joinedFacts;rw[Zo,Zp,Zq,Zr];kernel_rfl
