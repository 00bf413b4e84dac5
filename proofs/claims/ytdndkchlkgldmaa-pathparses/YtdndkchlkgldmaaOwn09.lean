/- Texts on this program, joined. -/
import Derived.Test.YtdndkchlkgldmaaOwn07
import Derived.Test.YtdndkchlkgldmaaKit08
import Derived.Test.YtdndkchlkgldmaaKit04
import Derived.Test.YtdndkchlkgldmaaProg
import Derived.KernelRfl

/- Chapter 03: strings.Join told by hand. -/
namespace Go.Proofs
set_option linter.unusedVariables false
open Go.Shelf Go.Abs
theorem Try.extra156 : Builder.Extra Try.prog Try.lays156_ren := {
  sizeBuilder := by kernel_rfl
  liesBuilder := by kernel_rfl
  t5 := Try.underlying5
  a5 := Try.isAgg5
  z5 := Try.sizeOf5
  v5 := Try.zeroValue5
  infoByte := by kernel_rfl
  cellsByte := by kernel_rfl
  sizeByte := by kernel_rfl
  neB5 := by decide }
theorem Try.says35 : MemSays Try.prog 35 joinAV := says_join Try.lays156 Try.extra156 (by kernel_rfl) Try.func35 (by kernel_rfl) (by kernel_rfl)
end Go.Proofs

/- The sizes, zero values and kinds of the types of this seat's program, for the walks. -/
namespace Go.Abs
set_option linter.unusedVariables false
open Go.Proofs
set_option maxRecDepth 100000

@[simp] theorem tsz2 : tsz Try.prog 2 = some 1 := by kernel_rfl
@[simp] theorem tbytes2 : tbytes Try.prog 2 = some 8 := by kernel_rfl
@[simp] theorem tagg2 : tagg Try.prog 2 = some false := by kernel_rfl
@[simp] theorem tzero2 : tzero Try.prog 2 = some (Go.Abs.AV.int Go.IntKind.i64 0) := by kernel_rfl
@[simp] theorem intT2 : intT Try.prog 2 = some .i64 := by kernel_rfl
@[simp] theorem tsz3 : tsz Try.prog 3 = some 1 := by kernel_rfl
@[simp] theorem tbytes3 : tbytes Try.prog 3 = some 8 := by kernel_rfl
@[simp] theorem tagg3 : tagg Try.prog 3 = some false := by kernel_rfl
@[simp] theorem tzero3 : tzero Try.prog 3 = some (Go.Abs.AV.int Go.IntKind.i64 0) := by kernel_rfl
@[simp] theorem intT3 : intT Try.prog 3 = some .i64 := by kernel_rfl
@[simp] theorem tsz4 : tsz Try.prog 4 = some 1 := by kernel_rfl
@[simp] theorem tbytes4 : tbytes Try.prog 4 = some 1 := by kernel_rfl
@[simp] theorem tagg4 : tagg Try.prog 4 = some false := by kernel_rfl
@[simp] theorem tzero4 : tzero Try.prog 4 = some (Go.Abs.AV.bool false) := by kernel_rfl
@[simp] theorem isBoolT4 : isBoolT Try.prog 4 = true := by kernel_rfl
@[simp] theorem tsz5 : tsz Try.prog 5 = some 1 := by kernel_rfl
@[simp] theorem tbytes5 : tbytes Try.prog 5 = some 1 := by kernel_rfl
@[simp] theorem tagg5 : tagg Try.prog 5 = some false := by kernel_rfl
@[simp] theorem tzero5 : tzero Try.prog 5 = some (Go.Abs.AV.int Go.IntKind.u8 0) := by kernel_rfl
@[simp] theorem intT5 : intT Try.prog 5 = some .u8 := by kernel_rfl
@[simp] theorem tsz6 : tsz Try.prog 6 = some 1 := by kernel_rfl
@[simp] theorem tbytes6 : tbytes Try.prog 6 = some 1 := by kernel_rfl
@[simp] theorem tagg6 : tagg Try.prog 6 = some false := by kernel_rfl
@[simp] theorem tzero6 : tzero Try.prog 6 = some (Go.Abs.AV.int Go.IntKind.u8 0) := by kernel_rfl
@[simp] theorem intT6 : intT Try.prog 6 = some .u8 := by kernel_rfl
@[simp] theorem tsz7 : tsz Try.prog 7 = some 4 := by kernel_rfl
@[simp] theorem tbytes7 : tbytes Try.prog 7 = some 24 := by kernel_rfl
@[simp] theorem tagg7 : tagg Try.prog 7 = some true := by kernel_rfl
@[simp] theorem tzero7 : tzero Try.prog 7 = some (Go.Abs.AV.agg [Go.Abs.AV.int Go.IntKind.i64 0, Go.Abs.AV.int Go.IntKind.i64 0, Go.Abs.AV.bool false, Go.Abs.AV.int Go.IntKind.u8 0]) := by kernel_rfl
@[simp] theorem tsz8 : tsz Try.prog 8 = some 4 := by kernel_rfl
@[simp] theorem tbytes8 : tbytes Try.prog 8 = some 24 := by kernel_rfl
@[simp] theorem tagg8 : tagg Try.prog 8 = some true := by kernel_rfl
@[simp] theorem tzero8 : tzero Try.prog 8 = some (Go.Abs.AV.agg [Go.Abs.AV.int Go.IntKind.i64 0, Go.Abs.AV.int Go.IntKind.i64 0, Go.Abs.AV.bool false, Go.Abs.AV.int Go.IntKind.u8 0]) := by kernel_rfl
@[simp] theorem tsz9 : tsz Try.prog 9 = some 1 := by kernel_rfl
@[simp] theorem tbytes9 : tbytes Try.prog 9 = some 16 := by kernel_rfl
@[simp] theorem tagg9 : tagg Try.prog 9 = some false := by kernel_rfl
@[simp] theorem tzero9 : tzero Try.prog 9 = some (Go.Abs.AV.str []) := by kernel_rfl
@[simp] theorem isStrT9 : isStrT Try.prog 9 = true := by kernel_rfl
@[simp] theorem bytesT9 : bytesT Try.prog 9 = false := by kernel_rfl
@[simp] theorem tsz10 : tsz Try.prog 10 = some 1 := by kernel_rfl
@[simp] theorem tbytes10 : tbytes Try.prog 10 = some 16 := by kernel_rfl
@[simp] theorem tagg10 : tagg Try.prog 10 = some false := by kernel_rfl
@[simp] theorem tzero10 : tzero Try.prog 10 = some (Go.Abs.AV.str []) := by kernel_rfl
@[simp] theorem isStrT10 : isStrT Try.prog 10 = true := by kernel_rfl
@[simp] theorem bytesT10 : bytesT Try.prog 10 = false := by kernel_rfl
@[simp] theorem tsz11 : tsz Try.prog 11 = some 1 := by kernel_rfl
@[simp] theorem tbytes11 : tbytes Try.prog 11 = some 16 := by kernel_rfl
@[simp] theorem tagg11 : tagg Try.prog 11 = some false := by kernel_rfl
@[simp] theorem tzero11 : tzero Try.prog 11 = some (Go.Abs.AV.str []) := by kernel_rfl
@[simp] theorem isStrT11 : isStrT Try.prog 11 = true := by kernel_rfl
@[simp] theorem bytesT11 : bytesT Try.prog 11 = false := by kernel_rfl
@[simp] theorem tsz12 : tsz Try.prog 12 = some 1 := by kernel_rfl
@[simp] theorem tbytes12 : tbytes Try.prog 12 = some 8 := by kernel_rfl
@[simp] theorem tagg12 : tagg Try.prog 12 = some false := by kernel_rfl
@[simp] theorem tzero12 : tzero Try.prog 12 = some (Go.Abs.AV.int Go.IntKind.u64 0) := by kernel_rfl
@[simp] theorem intT12 : intT Try.prog 12 = some .u64 := by kernel_rfl
@[simp] theorem tsz13 : tsz Try.prog 13 = some 2 := by kernel_rfl
@[simp] theorem tbytes13 : tbytes Try.prog 13 = some 24 := by kernel_rfl
@[simp] theorem tagg13 : tagg Try.prog 13 = some true := by kernel_rfl
@[simp] theorem tzero13 : tzero Try.prog 13 = some (Go.Abs.AV.agg [Go.Abs.AV.str [], Go.Abs.AV.int Go.IntKind.u64 0]) := by kernel_rfl
@[simp] theorem tsz14 : tsz Try.prog 14 = some 2 := by kernel_rfl
@[simp] theorem tbytes14 : tbytes Try.prog 14 = some 24 := by kernel_rfl
@[simp] theorem tagg14 : tagg Try.prog 14 = some true := by kernel_rfl
@[simp] theorem tzero14 : tzero Try.prog 14 = some (Go.Abs.AV.agg [Go.Abs.AV.str [], Go.Abs.AV.int Go.IntKind.u64 0]) := by kernel_rfl
@[simp] theorem tsz15 : tsz Try.prog 15 = some 1 := by kernel_rfl
@[simp] theorem tbytes15 : tbytes Try.prog 15 = some 8 := by kernel_rfl
@[simp] theorem tagg15 : tagg Try.prog 15 = some false := by kernel_rfl
@[simp] theorem tzero15 : tzero Try.prog 15 = some (Go.Abs.AV.ptr none) := by kernel_rfl
@[simp] theorem isPtrT15 : isPtrT Try.prog 15 = true := by kernel_rfl
@[simp] theorem tsz16 : tsz Try.prog 16 = some 1 := by kernel_rfl
@[simp] theorem tbytes16 : tbytes Try.prog 16 = some 8 := by kernel_rfl
@[simp] theorem tagg16 : tagg Try.prog 16 = some false := by kernel_rfl
@[simp] theorem tzero16 : tzero Try.prog 16 = some (Go.Abs.AV.ptr none) := by kernel_rfl
@[simp] theorem isPtrT16 : isPtrT Try.prog 16 = true := by kernel_rfl
@[simp] theorem tsz17 : tsz Try.prog 17 = some 1 := by kernel_rfl
@[simp] theorem tbytes17 : tbytes Try.prog 17 = some 8 := by kernel_rfl
@[simp] theorem tagg17 : tagg Try.prog 17 = some false := by kernel_rfl
@[simp] theorem tzero17 : tzero Try.prog 17 = some (Go.Abs.AV.ptr none) := by kernel_rfl
@[simp] theorem isPtrT17 : isPtrT Try.prog 17 = true := by kernel_rfl
@[simp] theorem tsz18 : tsz Try.prog 18 = some 1 := by kernel_rfl
@[simp] theorem tbytes18 : tbytes Try.prog 18 = some 8 := by kernel_rfl
@[simp] theorem tagg18 : tagg Try.prog 18 = some true := by kernel_rfl
@[simp] theorem tzero18 : tzero Try.prog 18 = some (Go.Abs.AV.agg [Go.Abs.AV.ptr none]) := by kernel_rfl
@[simp] theorem tsz19 : tsz Try.prog 19 = some 1 := by kernel_rfl
@[simp] theorem tbytes19 : tbytes Try.prog 19 = some 8 := by kernel_rfl
@[simp] theorem tagg19 : tagg Try.prog 19 = some true := by kernel_rfl
@[simp] theorem tzero19 : tzero Try.prog 19 = some (Go.Abs.AV.agg [Go.Abs.AV.ptr none]) := by kernel_rfl
@[simp] theorem tsz21 : tsz Try.prog 21 = some 1 := by kernel_rfl
@[simp] theorem tbytes21 : tbytes Try.prog 21 = some 4 := by kernel_rfl
@[simp] theorem tagg21 : tagg Try.prog 21 = some false := by kernel_rfl
@[simp] theorem tzero21 : tzero Try.prog 21 = some (Go.Abs.AV.int Go.IntKind.i32 0) := by kernel_rfl
@[simp] theorem intT21 : intT Try.prog 21 = some .i32 := by kernel_rfl
@[simp] theorem tsz22 : tsz Try.prog 22 = some 1 := by kernel_rfl
@[simp] theorem tbytes22 : tbytes Try.prog 22 = some 8 := by kernel_rfl
@[simp] theorem tagg22 : tagg Try.prog 22 = some false := by kernel_rfl
@[simp] theorem tzero22 : tzero Try.prog 22 = some (Go.Abs.AV.int Go.IntKind.i64 0) := by kernel_rfl
@[simp] theorem intT22 : intT Try.prog 22 = some .i64 := by kernel_rfl
@[simp] theorem tsz26 : tsz Try.prog 26 = some 1 := by kernel_rfl
@[simp] theorem tbytes26 : tbytes Try.prog 26 = some 24 := by kernel_rfl
@[simp] theorem tagg26 : tagg Try.prog 26 = some false := by kernel_rfl
@[simp] theorem tzero26 : tzero Try.prog 26 = some (Go.Abs.AV.slice none 0 0 none) := by kernel_rfl
@[simp] theorem isStrT26 : isStrT Try.prog 26 = false := by kernel_rfl
@[simp] theorem bytesT26 : bytesT Try.prog 26 = false := by kernel_rfl
@[simp] theorem elemT26 : elemT Try.prog 26 = some 9 := by kernel_rfl
@[simp] theorem isSliceT26 : isSliceT Try.prog 26 = true := by kernel_rfl
@[simp] theorem elemS26 : elemS Try.prog 26 = some 1 := by kernel_rfl
@[simp] theorem elemF26 : elemF Try.prog 26 = some (9, 16, 1, [Go.Abs.AV.str []]) := by kernel_rfl
@[simp] theorem tsz27 : tsz Try.prog 27 = some 3 := by kernel_rfl
@[simp] theorem tbytes27 : tbytes Try.prog 27 = some 32 := by kernel_rfl
@[simp] theorem tagg27 : tagg Try.prog 27 = some true := by kernel_rfl
@[simp] theorem tzero27 : tzero Try.prog 27 = some (Go.Abs.AV.agg [Go.Abs.AV.bool false, Go.Abs.AV.bool false, Go.Abs.AV.slice none 0 0 none]) := by kernel_rfl
@[simp] theorem tsz28 : tsz Try.prog 28 = some 3 := by kernel_rfl
@[simp] theorem tbytes28 : tbytes Try.prog 28 = some 32 := by kernel_rfl
@[simp] theorem tagg28 : tagg Try.prog 28 = some true := by kernel_rfl
@[simp] theorem tzero28 : tzero Try.prog 28 = some (Go.Abs.AV.agg [Go.Abs.AV.bool false, Go.Abs.AV.bool false, Go.Abs.AV.slice none 0 0 none]) := by kernel_rfl
@[simp] theorem tsz48 : tsz Try.prog 48 = some 1 := by kernel_rfl
@[simp] theorem tbytes48 : tbytes Try.prog 48 = some 24 := by kernel_rfl
@[simp] theorem tagg48 : tagg Try.prog 48 = some false := by kernel_rfl
@[simp] theorem tzero48 : tzero Try.prog 48 = some (Go.Abs.AV.slice none 0 0 none) := by kernel_rfl
@[simp] theorem isStrT48 : isStrT Try.prog 48 = false := by kernel_rfl
@[simp] theorem bytesT48 : bytesT Try.prog 48 = false := by kernel_rfl
@[simp] theorem elemT48 : elemT Try.prog 48 = some 26 := by kernel_rfl
@[simp] theorem isSliceT48 : isSliceT Try.prog 48 = true := by kernel_rfl
@[simp] theorem elemS48 : elemS Try.prog 48 = some 1 := by kernel_rfl
@[simp] theorem elemF48 : elemF Try.prog 48 = some (26, 24, 1, [Go.Abs.AV.slice none 0 0 none]) := by kernel_rfl
@[simp] theorem tsz50 : tsz Try.prog 50 = some 1 := by kernel_rfl
@[simp] theorem tbytes50 : tbytes Try.prog 50 = some 24 := by kernel_rfl
@[simp] theorem tagg50 : tagg Try.prog 50 = some false := by kernel_rfl
@[simp] theorem tzero50 : tzero Try.prog 50 = some (Go.Abs.AV.slice none 0 0 none) := by kernel_rfl
@[simp] theorem isStrT50 : isStrT Try.prog 50 = false := by kernel_rfl
@[simp] theorem bytesT50 : bytesT Try.prog 50 = false := by kernel_rfl
@[simp] theorem elemT50 : elemT Try.prog 50 = some 52 := by kernel_rfl
@[simp] theorem isSliceT50 : isSliceT Try.prog 50 = true := by kernel_rfl
@[simp] theorem elemS50 : elemS Try.prog 50 = some 2 := by kernel_rfl
@[simp] theorem elemF50 : elemF Try.prog 50 = some (52, 16, 2, [Go.Abs.AV.int Go.IntKind.i64 0, Go.Abs.AV.int Go.IntKind.i64 0]) := by kernel_rfl
@[simp] theorem tsz51 : tsz Try.prog 51 = some 2 := by kernel_rfl
@[simp] theorem tbytes51 : tbytes Try.prog 51 = some 16 := by kernel_rfl
@[simp] theorem tagg51 : tagg Try.prog 51 = some true := by kernel_rfl
@[simp] theorem tzero51 : tzero Try.prog 51 = some (Go.Abs.AV.agg [Go.Abs.AV.int Go.IntKind.i64 0, Go.Abs.AV.int Go.IntKind.i64 0]) := by kernel_rfl
@[simp] theorem tsz52 : tsz Try.prog 52 = some 2 := by kernel_rfl
@[simp] theorem tbytes52 : tbytes Try.prog 52 = some 16 := by kernel_rfl
@[simp] theorem tagg52 : tagg Try.prog 52 = some true := by kernel_rfl
@[simp] theorem tzero52 : tzero Try.prog 52 = some (Go.Abs.AV.agg [Go.Abs.AV.int Go.IntKind.i64 0, Go.Abs.AV.int Go.IntKind.i64 0]) := by kernel_rfl
@[simp] theorem tsz53 : tsz Try.prog 53 = some 1 := by kernel_rfl
@[simp] theorem tbytes53 : tbytes Try.prog 53 = some 8 := by kernel_rfl
@[simp] theorem tagg53 : tagg Try.prog 53 = some false := by kernel_rfl
@[simp] theorem tzero53 : tzero Try.prog 53 = some (Go.Abs.AV.ptr none) := by kernel_rfl
@[simp] theorem isPtrT53 : isPtrT Try.prog 53 = true := by kernel_rfl
@[simp] theorem tsz54 : tsz Try.prog 54 = some 1 := by kernel_rfl
@[simp] theorem tbytes54 : tbytes Try.prog 54 = some 24 := by kernel_rfl
@[simp] theorem tagg54 : tagg Try.prog 54 = some false := by kernel_rfl
@[simp] theorem tzero54 : tzero Try.prog 54 = some (Go.Abs.AV.slice none 0 0 none) := by kernel_rfl
@[simp] theorem isStrT54 : isStrT Try.prog 54 = false := by kernel_rfl
@[simp] theorem bytesT54 : bytesT Try.prog 54 = true := by kernel_rfl
@[simp] theorem elemT54 : elemT Try.prog 54 = some 5 := by kernel_rfl
@[simp] theorem isSliceT54 : isSliceT Try.prog 54 = true := by kernel_rfl
@[simp] theorem elemS54 : elemS Try.prog 54 = some 1 := by kernel_rfl
@[simp] theorem elemF54 : elemF Try.prog 54 = some (5, 1, 1, [Go.Abs.AV.int Go.IntKind.u8 0]) := by kernel_rfl
@[simp] theorem tsz55 : tsz Try.prog 55 = some 2 := by kernel_rfl
@[simp] theorem tbytes55 : tbytes Try.prog 55 = some 32 := by kernel_rfl
@[simp] theorem tagg55 : tagg Try.prog 55 = some true := by kernel_rfl
@[simp] theorem tzero55 : tzero Try.prog 55 = some (Go.Abs.AV.agg [Go.Abs.AV.ptr none, Go.Abs.AV.slice none 0 0 none]) := by kernel_rfl
@[simp] theorem tsz56 : tsz Try.prog 56 = some 2 := by kernel_rfl
@[simp] theorem tbytes56 : tbytes Try.prog 56 = some 32 := by kernel_rfl
@[simp] theorem tagg56 : tagg Try.prog 56 = some true := by kernel_rfl
@[simp] theorem tzero56 : tzero Try.prog 56 = some (Go.Abs.AV.agg [Go.Abs.AV.ptr none, Go.Abs.AV.slice none 0 0 none]) := by kernel_rfl
@[simp] theorem tsz59 : tsz Try.prog 59 = some 1 := by kernel_rfl
@[simp] theorem tbytes59 : tbytes Try.prog 59 = some 16 := by kernel_rfl
@[simp] theorem tagg59 : tagg Try.prog 59 = some false := by kernel_rfl
@[simp] theorem tzero59 : tzero Try.prog 59 = some Go.Abs.AV.nilIface := by kernel_rfl
@[simp] theorem tsz66 : tsz Try.prog 66 = some 256 := by kernel_rfl
@[simp] theorem tbytes66 : tbytes Try.prog 66 = some 256 := by kernel_rfl
@[simp] theorem tagg66 : tagg Try.prog 66 = some true := by kernel_rfl
@[simp] theorem tzero66 : tzero Try.prog 66 = some (Go.Abs.AV.agg [Go.Abs.AV.bool false, Go.Abs.AV.bool false, Go.Abs.AV.bool false, Go.Abs.AV.bool false, Go.Abs.AV.bool false, Go.Abs.AV.bool false, Go.Abs.AV.bool false, Go.Abs.AV.bool false, Go.Abs.AV.bool false, Go.Abs.AV.bool false, Go.Abs.AV.bool false, Go.Abs.AV.bool false, Go.Abs.AV.bool false, Go.Abs.AV.bool false, Go.Abs.AV.bool false, Go.Abs.AV.bool false, Go.Abs.AV.bool false, Go.Abs.AV.bool false, Go.Abs.AV.bool false, Go.Abs.AV.bool false, Go.Abs.AV.bool false, Go.Abs.AV.bool false, Go.Abs.AV.bool false, Go.Abs.AV.bool false, Go.Abs.AV.bool false, Go.Abs.AV.bool false, Go.Abs.AV.bool false, Go.Abs.AV.bool false, Go.Abs.AV.bool false, Go.Abs.AV.bool false, Go.Abs.AV.bool false, Go.Abs.AV.bool false, Go.Abs.AV.bool false, Go.Abs.AV.bool false, Go.Abs.AV.bool false, Go.Abs.AV.bool false, Go.Abs.AV.bool false, Go.Abs.AV.bool false, Go.Abs.AV.bool false, Go.Abs.AV.bool false, Go.Abs.AV.bool false, Go.Abs.AV.bool false, Go.Abs.AV.bool false, Go.Abs.AV.bool false, Go.Abs.AV.bool false, Go.Abs.AV.bool false, Go.Abs.AV.bool false, Go.Abs.AV.bool false, Go.Abs.AV.bool false, Go.Abs.AV.bool false, Go.Abs.AV.bool false, Go.Abs.AV.bool false, Go.Abs.AV.bool false, Go.Abs.AV.bool false, Go.Abs.AV.bool false, Go.Abs.AV.bool false, Go.Abs.AV.bool false, Go.Abs.AV.bool false, Go.Abs.AV.bool false, Go.Abs.AV.bool false, Go.Abs.AV.bool false, Go.Abs.AV.bool false, Go.Abs.AV.bool false, Go.Abs.AV.bool false, Go.Abs.AV.bool false, Go.Abs.AV.bool false, Go.Abs.AV.bool false, Go.Abs.AV.bool false, Go.Abs.AV.bool false, Go.Abs.AV.bool false, Go.Abs.AV.bool false, Go.Abs.AV.bool false, Go.Abs.AV.bool false, Go.Abs.AV.bool false, Go.Abs.AV.bool false, Go.Abs.AV.bool false, Go.Abs.AV.bool false, Go.Abs.AV.bool false, Go.Abs.AV.bool false, Go.Abs.AV.bool false, Go.Abs.AV.bool false, Go.Abs.AV.bool false, Go.Abs.AV.bool false, Go.Abs.AV.bool false, Go.Abs.AV.bool false, Go.Abs.AV.bool false, Go.Abs.AV.bool false, Go.Abs.AV.bool false, Go.Abs.AV.bool false, Go.Abs.AV.bool false, Go.Abs.AV.bool false, Go.Abs.AV.bool false, Go.Abs.AV.bool false, Go.Abs.AV.bool false, Go.Abs.AV.bool false, Go.Abs.AV.bool false, Go.Abs.AV.bool false, Go.Abs.AV.bool false, Go.Abs.AV.bool false, Go.Abs.AV.bool false, Go.Abs.AV.bool false, Go.Abs.AV.bool false, Go.Abs.AV.bool false, Go.Abs.AV.bool false, Go.Abs.AV.bool false, Go.Abs.AV.bool false, Go.Abs.AV.bool false, Go.Abs.AV.bool false, Go.Abs.AV.bool false, Go.Abs.AV.bool false, Go.Abs.AV.bool false, Go.Abs.AV.bool false, Go.Abs.AV.bool false, Go.Abs.AV.bool false, Go.Abs.AV.bool false, Go.Abs.AV.bool false, Go.Abs.AV.bool false, Go.Abs.AV.bool false, Go.Abs.AV.bool false, Go.Abs.AV.bool false, Go.Abs.AV.bool false, Go.Abs.AV.bool false, Go.Abs.AV.bool false, Go.Abs.AV.bool false, Go.Abs.AV.bool false, Go.Abs.AV.bool false, Go.Abs.AV.bool false, Go.Abs.AV.bool false, Go.Abs.AV.bool false, Go.Abs.AV.bool false, Go.Abs.AV.bool false, Go.Abs.AV.bool false, Go.Abs.AV.bool false, Go.Abs.AV.bool false, Go.Abs.AV.bool false, Go.Abs.AV.bool false, Go.Abs.AV.bool false, Go.Abs.AV.bool false, Go.Abs.AV.bool false, Go.Abs.AV.bool false, Go.Abs.AV.bool false, Go.Abs.AV.bool false, Go.Abs.AV.bool false, Go.Abs.AV.bool false, Go.Abs.AV.bool false, Go.Abs.AV.bool false, Go.Abs.AV.bool false, Go.Abs.AV.bool false, Go.Abs.AV.bool false, Go.Abs.AV.bool false, Go.Abs.AV.bool false, Go.Abs.AV.bool false, Go.Abs.AV.bool false, Go.Abs.AV.bool false, Go.Abs.AV.bool false, Go.Abs.AV.bool false, Go.Abs.AV.bool false, Go.Abs.AV.bool false, Go.Abs.AV.bool false, Go.Abs.AV.bool false, Go.Abs.AV.bool false, Go.Abs.AV.bool false, Go.Abs.AV.bool false, Go.Abs.AV.bool false, Go.Abs.AV.bool false, Go.Abs.AV.bool false, Go.Abs.AV.bool false, Go.Abs.AV.bool false, Go.Abs.AV.bool false, Go.Abs.AV.bool false, Go.Abs.AV.bool false, Go.Abs.AV.bool false, Go.Abs.AV.bool false, Go.Abs.AV.bool false, Go.Abs.AV.bool false, Go.Abs.AV.bool false, Go.Abs.AV.bool false, Go.Abs.AV.bool false, Go.Abs.AV.bool false, Go.Abs.AV.bool false, Go.Abs.AV.bool false, Go.Abs.AV.bool false, Go.Abs.AV.bool false, Go.Abs.AV.bool false, Go.Abs.AV.bool false, Go.Abs.AV.bool false, Go.Abs.AV.bool false, Go.Abs.AV.bool false, Go.Abs.AV.bool false, Go.Abs.AV.bool false, Go.Abs.AV.bool false, Go.Abs.AV.bool false, Go.Abs.AV.bool false, Go.Abs.AV.bool false, Go.Abs.AV.bool false, Go.Abs.AV.bool false, Go.Abs.AV.bool false, Go.Abs.AV.bool false, Go.Abs.AV.bool false, Go.Abs.AV.bool false, Go.Abs.AV.bool false, Go.Abs.AV.bool false, Go.Abs.AV.bool false, Go.Abs.AV.bool false, Go.Abs.AV.bool false, Go.Abs.AV.bool false, Go.Abs.AV.bool false, Go.Abs.AV.bool false, Go.Abs.AV.bool false, Go.Abs.AV.bool false, Go.Abs.AV.bool false, Go.Abs.AV.bool false, Go.Abs.AV.bool false, Go.Abs.AV.bool false, Go.Abs.AV.bool false, Go.Abs.AV.bool false, Go.Abs.AV.bool false, Go.Abs.AV.bool false, Go.Abs.AV.bool false, Go.Abs.AV.bool false, Go.Abs.AV.bool false, Go.Abs.AV.bool false, Go.Abs.AV.bool false, Go.Abs.AV.bool false, Go.Abs.AV.bool false, Go.Abs.AV.bool false, Go.Abs.AV.bool false, Go.Abs.AV.bool false, Go.Abs.AV.bool false, Go.Abs.AV.bool false, Go.Abs.AV.bool false, Go.Abs.AV.bool false, Go.Abs.AV.bool false, Go.Abs.AV.bool false, Go.Abs.AV.bool false, Go.Abs.AV.bool false, Go.Abs.AV.bool false, Go.Abs.AV.bool false, Go.Abs.AV.bool false, Go.Abs.AV.bool false, Go.Abs.AV.bool false, Go.Abs.AV.bool false, Go.Abs.AV.bool false, Go.Abs.AV.bool false, Go.Abs.AV.bool false, Go.Abs.AV.bool false, Go.Abs.AV.bool false, Go.Abs.AV.bool false, Go.Abs.AV.bool false, Go.Abs.AV.bool false, Go.Abs.AV.bool false, Go.Abs.AV.bool false, Go.Abs.AV.bool false, Go.Abs.AV.bool false, Go.Abs.AV.bool false, Go.Abs.AV.bool false]) := by kernel_rfl
@[simp] theorem isArrT66 : isArrT Try.prog 66 = some 256 := by kernel_rfl
@[simp] theorem elemA66 : elemA Try.prog 66 = some (256, 1) := by kernel_rfl
@[simp] theorem tsz67 : tsz Try.prog 67 = some 256 := by kernel_rfl
@[simp] theorem tbytes67 : tbytes Try.prog 67 = some 256 := by kernel_rfl
@[simp] theorem tagg67 : tagg Try.prog 67 = some true := by kernel_rfl
@[simp] theorem tzero67 : tzero Try.prog 67 = some (Go.Abs.AV.agg [Go.Abs.AV.bool false, Go.Abs.AV.bool false, Go.Abs.AV.bool false, Go.Abs.AV.bool false, Go.Abs.AV.bool false, Go.Abs.AV.bool false, Go.Abs.AV.bool false, Go.Abs.AV.bool false, Go.Abs.AV.bool false, Go.Abs.AV.bool false, Go.Abs.AV.bool false, Go.Abs.AV.bool false, Go.Abs.AV.bool false, Go.Abs.AV.bool false, Go.Abs.AV.bool false, Go.Abs.AV.bool false, Go.Abs.AV.bool false, Go.Abs.AV.bool false, Go.Abs.AV.bool false, Go.Abs.AV.bool false, Go.Abs.AV.bool false, Go.Abs.AV.bool false, Go.Abs.AV.bool false, Go.Abs.AV.bool false, Go.Abs.AV.bool false, Go.Abs.AV.bool false, Go.Abs.AV.bool false, Go.Abs.AV.bool false, Go.Abs.AV.bool false, Go.Abs.AV.bool false, Go.Abs.AV.bool false, Go.Abs.AV.bool false, Go.Abs.AV.bool false, Go.Abs.AV.bool false, Go.Abs.AV.bool false, Go.Abs.AV.bool false, Go.Abs.AV.bool false, Go.Abs.AV.bool false, Go.Abs.AV.bool false, Go.Abs.AV.bool false, Go.Abs.AV.bool false, Go.Abs.AV.bool false, Go.Abs.AV.bool false, Go.Abs.AV.bool false, Go.Abs.AV.bool false, Go.Abs.AV.bool false, Go.Abs.AV.bool false, Go.Abs.AV.bool false, Go.Abs.AV.bool false, Go.Abs.AV.bool false, Go.Abs.AV.bool false, Go.Abs.AV.bool false, Go.Abs.AV.bool false, Go.Abs.AV.bool false, Go.Abs.AV.bool false, Go.Abs.AV.bool false, Go.Abs.AV.bool false, Go.Abs.AV.bool false, Go.Abs.AV.bool false, Go.Abs.AV.bool false, Go.Abs.AV.bool false, Go.Abs.AV.bool false, Go.Abs.AV.bool false, Go.Abs.AV.bool false, Go.Abs.AV.bool false, Go.Abs.AV.bool false, Go.Abs.AV.bool false, Go.Abs.AV.bool false, Go.Abs.AV.bool false, Go.Abs.AV.bool false, Go.Abs.AV.bool false, Go.Abs.AV.bool false, Go.Abs.AV.bool false, Go.Abs.AV.bool false, Go.Abs.AV.bool false, Go.Abs.AV.bool false, Go.Abs.AV.bool false, Go.Abs.AV.bool false, Go.Abs.AV.bool false, Go.Abs.AV.bool false, Go.Abs.AV.bool false, Go.Abs.AV.bool false, Go.Abs.AV.bool false, Go.Abs.AV.bool false, Go.Abs.AV.bool false, Go.Abs.AV.bool false, Go.Abs.AV.bool false, Go.Abs.AV.bool false, Go.Abs.AV.bool false, Go.Abs.AV.bool false, Go.Abs.AV.bool false, Go.Abs.AV.bool false, Go.Abs.AV.bool false, Go.Abs.AV.bool false, Go.Abs.AV.bool false, Go.Abs.AV.bool false, Go.Abs.AV.bool false, Go.Abs.AV.bool false, Go.Abs.AV.bool false, Go.Abs.AV.bool false, Go.Abs.AV.bool false, Go.Abs.AV.bool false, Go.Abs.AV.bool false, Go.Abs.AV.bool false, Go.Abs.AV.bool false, Go.Abs.AV.bool false, Go.Abs.AV.bool false, Go.Abs.AV.bool false, Go.Abs.AV.bool false, Go.Abs.AV.bool false, Go.Abs.AV.bool false, Go.Abs.AV.bool false, Go.Abs.AV.bool false, Go.Abs.AV.bool false, Go.Abs.AV.bool false, Go.Abs.AV.bool false, Go.Abs.AV.bool false, Go.Abs.AV.bool false, Go.Abs.AV.bool false, Go.Abs.AV.bool false, Go.Abs.AV.bool false, Go.Abs.AV.bool false, Go.Abs.AV.bool false, Go.Abs.AV.bool false, Go.Abs.AV.bool false, Go.Abs.AV.bool false, Go.Abs.AV.bool false, Go.Abs.AV.bool false, Go.Abs.AV.bool false, Go.Abs.AV.bool false, Go.Abs.AV.bool false, Go.Abs.AV.bool false, Go.Abs.AV.bool false, Go.Abs.AV.bool false, Go.Abs.AV.bool false, Go.Abs.AV.bool false, Go.Abs.AV.bool false, Go.Abs.AV.bool false, Go.Abs.AV.bool false, Go.Abs.AV.bool false, Go.Abs.AV.bool false, Go.Abs.AV.bool false, Go.Abs.AV.bool false, Go.Abs.AV.bool false, Go.Abs.AV.bool false, Go.Abs.AV.bool false, Go.Abs.AV.bool false, Go.Abs.AV.bool false, Go.Abs.AV.bool false, Go.Abs.AV.bool false, Go.Abs.AV.bool false, Go.Abs.AV.bool false, Go.Abs.AV.bool false, Go.Abs.AV.bool false, Go.Abs.AV.bool false, Go.Abs.AV.bool false, Go.Abs.AV.bool false, Go.Abs.AV.bool false, Go.Abs.AV.bool false, Go.Abs.AV.bool false, Go.Abs.AV.bool false, Go.Abs.AV.bool false, Go.Abs.AV.bool false, Go.Abs.AV.bool false, Go.Abs.AV.bool false, Go.Abs.AV.bool false, Go.Abs.AV.bool false, Go.Abs.AV.bool false, Go.Abs.AV.bool false, Go.Abs.AV.bool false, Go.Abs.AV.bool false, Go.Abs.AV.bool false, Go.Abs.AV.bool false, Go.Abs.AV.bool false, Go.Abs.AV.bool false, Go.Abs.AV.bool false, Go.Abs.AV.bool false, Go.Abs.AV.bool false, Go.Abs.AV.bool false, Go.Abs.AV.bool false, Go.Abs.AV.bool false, Go.Abs.AV.bool false, Go.Abs.AV.bool false, Go.Abs.AV.bool false, Go.Abs.AV.bool false, Go.Abs.AV.bool false, Go.Abs.AV.bool false, Go.Abs.AV.bool false, Go.Abs.AV.bool false, Go.Abs.AV.bool false, Go.Abs.AV.bool false, Go.Abs.AV.bool false, Go.Abs.AV.bool false, Go.Abs.AV.bool false, Go.Abs.AV.bool false, Go.Abs.AV.bool false, Go.Abs.AV.bool false, Go.Abs.AV.bool false, Go.Abs.AV.bool false, Go.Abs.AV.bool false, Go.Abs.AV.bool false, Go.Abs.AV.bool false, Go.Abs.AV.bool false, Go.Abs.AV.bool false, Go.Abs.AV.bool false, Go.Abs.AV.bool false, Go.Abs.AV.bool false, Go.Abs.AV.bool false, Go.Abs.AV.bool false, Go.Abs.AV.bool false, Go.Abs.AV.bool false, Go.Abs.AV.bool false, Go.Abs.AV.bool false, Go.Abs.AV.bool false, Go.Abs.AV.bool false, Go.Abs.AV.bool false, Go.Abs.AV.bool false, Go.Abs.AV.bool false, Go.Abs.AV.bool false, Go.Abs.AV.bool false, Go.Abs.AV.bool false, Go.Abs.AV.bool false, Go.Abs.AV.bool false, Go.Abs.AV.bool false, Go.Abs.AV.bool false, Go.Abs.AV.bool false, Go.Abs.AV.bool false, Go.Abs.AV.bool false, Go.Abs.AV.bool false, Go.Abs.AV.bool false, Go.Abs.AV.bool false, Go.Abs.AV.bool false, Go.Abs.AV.bool false, Go.Abs.AV.bool false, Go.Abs.AV.bool false, Go.Abs.AV.bool false, Go.Abs.AV.bool false, Go.Abs.AV.bool false, Go.Abs.AV.bool false, Go.Abs.AV.bool false, Go.Abs.AV.bool false, Go.Abs.AV.bool false, Go.Abs.AV.bool false, Go.Abs.AV.bool false, Go.Abs.AV.bool false, Go.Abs.AV.bool false, Go.Abs.AV.bool false, Go.Abs.AV.bool false, Go.Abs.AV.bool false, Go.Abs.AV.bool false, Go.Abs.AV.bool false, Go.Abs.AV.bool false, Go.Abs.AV.bool false, Go.Abs.AV.bool false, Go.Abs.AV.bool false, Go.Abs.AV.bool false]) := by kernel_rfl
@[simp] theorem isArrT67 : isArrT Try.prog 67 = some 256 := by kernel_rfl
@[simp] theorem elemA67 : elemA Try.prog 67 = some (256, 1) := by kernel_rfl
@[simp] theorem tsz71 : tsz Try.prog 71 = some 1 := by kernel_rfl
@[simp] theorem tbytes71 : tbytes Try.prog 71 = some 8 := by kernel_rfl
@[simp] theorem tagg71 : tagg Try.prog 71 = some false := by kernel_rfl
@[simp] theorem tzero71 : tzero Try.prog 71 = some (Go.Abs.AV.ptr none) := by kernel_rfl
@[simp] theorem isPtrT71 : isPtrT Try.prog 71 = true := by kernel_rfl
@[simp] theorem tsz74 : tsz Try.prog 74 = some 1 := by kernel_rfl
@[simp] theorem tbytes74 : tbytes Try.prog 74 = some 8 := by kernel_rfl
@[simp] theorem tagg74 : tagg Try.prog 74 = some false := by kernel_rfl
@[simp] theorem tzero74 : tzero Try.prog 74 = some (Go.Abs.AV.int Go.IntKind.u64 0) := by kernel_rfl
@[simp] theorem intT74 : intT Try.prog 74 = some .u64 := by kernel_rfl
@[simp] theorem tsz75 : tsz Try.prog 75 = some 1 := by kernel_rfl
@[simp] theorem tbytes75 : tbytes Try.prog 75 = some 8 := by kernel_rfl
@[simp] theorem tagg75 : tagg Try.prog 75 = some false := by kernel_rfl
@[simp] theorem tzero75 : tzero Try.prog 75 = some (Go.Abs.AV.ptr none) := by kernel_rfl
@[simp] theorem isPtrT75 : isPtrT Try.prog 75 = true := by kernel_rfl
@[simp] theorem tsz76 : tsz Try.prog 76 = some 1 := by kernel_rfl
@[simp] theorem tbytes76 : tbytes Try.prog 76 = some 8 := by kernel_rfl
@[simp] theorem tagg76 : tagg Try.prog 76 = some false := by kernel_rfl
@[simp] theorem tzero76 : tzero Try.prog 76 = some (Go.Abs.AV.ptr none) := by kernel_rfl
@[simp] theorem tsz79 : tsz Try.prog 79 = some 1 := by kernel_rfl
@[simp] theorem tbytes79 : tbytes Try.prog 79 = some 4 := by kernel_rfl
@[simp] theorem tagg79 : tagg Try.prog 79 = some false := by kernel_rfl
@[simp] theorem tzero79 : tzero Try.prog 79 = some (Go.Abs.AV.int Go.IntKind.u32 0) := by kernel_rfl
@[simp] theorem intT79 : intT Try.prog 79 = some .u32 := by kernel_rfl
@[simp] theorem tsz82 : tsz Try.prog 82 = some 4 := by kernel_rfl
@[simp] theorem tbytes82 : tbytes Try.prog 82 = some 40 := by kernel_rfl
@[simp] theorem tagg82 : tagg Try.prog 82 = some true := by kernel_rfl
@[simp] theorem tzero82 : tzero Try.prog 82 = some (Go.Abs.AV.agg [Go.Abs.AV.ptr none, Go.Abs.AV.ptr none, Go.Abs.AV.ptr none, Go.Abs.AV.str []]) := by kernel_rfl
@[simp] theorem tsz83 : tsz Try.prog 83 = some 4 := by kernel_rfl
@[simp] theorem tbytes83 : tbytes Try.prog 83 = some 40 := by kernel_rfl
@[simp] theorem tagg83 : tagg Try.prog 83 = some true := by kernel_rfl
@[simp] theorem tzero83 : tzero Try.prog 83 = some (Go.Abs.AV.agg [Go.Abs.AV.ptr none, Go.Abs.AV.ptr none, Go.Abs.AV.ptr none, Go.Abs.AV.str []]) := by kernel_rfl
@[simp] theorem tsz84 : tsz Try.prog 84 = some 0 := by kernel_rfl
@[simp] theorem tbytes84 : tbytes Try.prog 84 = some 0 := by kernel_rfl
@[simp] theorem tagg84 : tagg Try.prog 84 = some true := by kernel_rfl
@[simp] theorem tzero84 : tzero Try.prog 84 = some (Go.Abs.AV.agg []) := by kernel_rfl
@[simp] theorem isArrT84 : isArrT Try.prog 84 = some 0 := by kernel_rfl
@[simp] theorem elemA84 : elemA Try.prog 84 = some (0, 1) := by kernel_rfl
@[simp] theorem tsz85 : tsz Try.prog 85 = some 0 := by kernel_rfl
@[simp] theorem tbytes85 : tbytes Try.prog 85 = some 0 := by kernel_rfl
@[simp] theorem tagg85 : tagg Try.prog 85 = some true := by kernel_rfl
@[simp] theorem tzero85 : tzero Try.prog 85 = some (Go.Abs.AV.agg []) := by kernel_rfl
@[simp] theorem tsz86 : tsz Try.prog 86 = some 0 := by kernel_rfl
@[simp] theorem tbytes86 : tbytes Try.prog 86 = some 0 := by kernel_rfl
@[simp] theorem tagg86 : tagg Try.prog 86 = some true := by kernel_rfl
@[simp] theorem tzero86 : tzero Try.prog 86 = some (Go.Abs.AV.agg []) := by kernel_rfl
@[simp] theorem tsz88 : tsz Try.prog 88 = some 1 := by kernel_rfl
@[simp] theorem tbytes88 : tbytes Try.prog 88 = some 1 := by kernel_rfl
@[simp] theorem tagg88 : tagg Try.prog 88 = some false := by kernel_rfl
@[simp] theorem tzero88 : tzero Try.prog 88 = some (Go.Abs.AV.int Go.IntKind.u8 0) := by kernel_rfl
@[simp] theorem intT88 : intT Try.prog 88 = some .u8 := by kernel_rfl
@[simp] theorem tsz89 : tsz Try.prog 89 = some 1 := by kernel_rfl
@[simp] theorem tbytes89 : tbytes Try.prog 89 = some 1 := by kernel_rfl
@[simp] theorem tagg89 : tagg Try.prog 89 = some false := by kernel_rfl
@[simp] theorem tzero89 : tzero Try.prog 89 = some (Go.Abs.AV.int Go.IntKind.u8 0) := by kernel_rfl
@[simp] theorem intT89 : intT Try.prog 89 = some .u8 := by kernel_rfl
@[simp] theorem tsz91 : tsz Try.prog 91 = some 1 := by kernel_rfl
@[simp] theorem tbytes91 : tbytes Try.prog 91 = some 4 := by kernel_rfl
@[simp] theorem tagg91 : tagg Try.prog 91 = some false := by kernel_rfl
@[simp] theorem tzero91 : tzero Try.prog 91 = some (Go.Abs.AV.int Go.IntKind.i32 0) := by kernel_rfl
@[simp] theorem intT91 : intT Try.prog 91 = some .i32 := by kernel_rfl
@[simp] theorem tsz92 : tsz Try.prog 92 = some 1 := by kernel_rfl
@[simp] theorem tbytes92 : tbytes Try.prog 92 = some 4 := by kernel_rfl
@[simp] theorem tagg92 : tagg Try.prog 92 = some false := by kernel_rfl
@[simp] theorem tzero92 : tzero Try.prog 92 = some (Go.Abs.AV.int Go.IntKind.i32 0) := by kernel_rfl
@[simp] theorem intT92 : intT Try.prog 92 = some .i32 := by kernel_rfl
@[simp] theorem tsz93 : tsz Try.prog 93 = some 11 := by kernel_rfl
@[simp] theorem tbytes93 : tbytes Try.prog 93 = some 48 := by kernel_rfl
@[simp] theorem tagg93 : tagg Try.prog 93 = some true := by kernel_rfl
@[simp] theorem tzero93 : tzero Try.prog 93 = some (Go.Abs.AV.agg [Go.Abs.AV.int Go.IntKind.u64 0, Go.Abs.AV.int Go.IntKind.u64 0, Go.Abs.AV.int Go.IntKind.u32 0, Go.Abs.AV.int Go.IntKind.u8 0, Go.Abs.AV.int Go.IntKind.u8 0, Go.Abs.AV.int Go.IntKind.u8 0, Go.Abs.AV.int Go.IntKind.u8 0, Go.Abs.AV.nilFunc, Go.Abs.AV.ptr none, Go.Abs.AV.int Go.IntKind.i32 0, Go.Abs.AV.int Go.IntKind.i32 0]) := by kernel_rfl
@[simp] theorem tsz94 : tsz Try.prog 94 = some 11 := by kernel_rfl
@[simp] theorem tbytes94 : tbytes Try.prog 94 = some 48 := by kernel_rfl
@[simp] theorem tagg94 : tagg Try.prog 94 = some true := by kernel_rfl
@[simp] theorem tzero94 : tzero Try.prog 94 = some (Go.Abs.AV.agg [Go.Abs.AV.int Go.IntKind.u64 0, Go.Abs.AV.int Go.IntKind.u64 0, Go.Abs.AV.int Go.IntKind.u32 0, Go.Abs.AV.int Go.IntKind.u8 0, Go.Abs.AV.int Go.IntKind.u8 0, Go.Abs.AV.int Go.IntKind.u8 0, Go.Abs.AV.int Go.IntKind.u8 0, Go.Abs.AV.nilFunc, Go.Abs.AV.ptr none, Go.Abs.AV.int Go.IntKind.i32 0, Go.Abs.AV.int Go.IntKind.i32 0]) := by kernel_rfl

end Go.Abs
