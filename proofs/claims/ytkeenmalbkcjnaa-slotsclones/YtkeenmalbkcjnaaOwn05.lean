/- Texts on this program, joined. -/
import Derived.Test.YtkeenmalbkcjnaaKit04
import Derived.Test.YtkeenmalbkcjnaaProg
import Derived.KernelRfl

/- The sizes, zero values and kinds of the types of this seat's program, for the walks. -/
namespace Go.Abs
set_option linter.unusedVariables false
open Go.Proofs
set_option maxRecDepth 100000

@[simp] theorem tsz2 : tsz Try.prog 2 = some 1 := by kernel_rfl
@[simp] theorem tbytes2 : tbytes Try.prog 2 = some 8 := by kernel_rfl
@[simp] theorem tagg2 : tagg Try.prog 2 = some false := by kernel_rfl
@[simp] theorem tzero2 : tzero Try.prog 2 = some (Go.Abs.AV.int Go.IntKind.i64 0) := by kernel_rfl
@[simp] theorem intT2 : intT Try.prog 2 = some .i64 := by kernel_rfl
@[simp] theorem tsz3 : tsz Try.prog 3 = some 1 := by kernel_rfl
@[simp] theorem tbytes3 : tbytes Try.prog 3 = some 8 := by kernel_rfl
@[simp] theorem tagg3 : tagg Try.prog 3 = some false := by kernel_rfl
@[simp] theorem tzero3 : tzero Try.prog 3 = some (Go.Abs.AV.int Go.IntKind.i64 0) := by kernel_rfl
@[simp] theorem intT3 : intT Try.prog 3 = some .i64 := by kernel_rfl
@[simp] theorem tsz4 : tsz Try.prog 4 = some 1 := by kernel_rfl
@[simp] theorem tbytes4 : tbytes Try.prog 4 = some 1 := by kernel_rfl
@[simp] theorem tagg4 : tagg Try.prog 4 = some false := by kernel_rfl
@[simp] theorem tzero4 : tzero Try.prog 4 = some (Go.Abs.AV.bool false) := by kernel_rfl
@[simp] theorem isBoolT4 : isBoolT Try.prog 4 = true := by kernel_rfl
@[simp] theorem tsz5 : tsz Try.prog 5 = some 1 := by kernel_rfl
@[simp] theorem tbytes5 : tbytes Try.prog 5 = some 1 := by kernel_rfl
@[simp] theorem tagg5 : tagg Try.prog 5 = some false := by kernel_rfl
@[simp] theorem tzero5 : tzero Try.prog 5 = some (Go.Abs.AV.int Go.IntKind.u8 0) := by kernel_rfl
@[simp] theorem intT5 : intT Try.prog 5 = some .u8 := by kernel_rfl
@[simp] theorem tsz6 : tsz Try.prog 6 = some 1 := by kernel_rfl
@[simp] theorem tbytes6 : tbytes Try.prog 6 = some 1 := by kernel_rfl
@[simp] theorem tagg6 : tagg Try.prog 6 = some false := by kernel_rfl
@[simp] theorem tzero6 : tzero Try.prog 6 = some (Go.Abs.AV.int Go.IntKind.u8 0) := by kernel_rfl
@[simp] theorem intT6 : intT Try.prog 6 = some .u8 := by kernel_rfl
@[simp] theorem tsz7 : tsz Try.prog 7 = some 4 := by kernel_rfl
@[simp] theorem tbytes7 : tbytes Try.prog 7 = some 24 := by kernel_rfl
@[simp] theorem tagg7 : tagg Try.prog 7 = some true := by kernel_rfl
@[simp] theorem tzero7 : tzero Try.prog 7 = some (Go.Abs.AV.agg [Go.Abs.AV.int Go.IntKind.i64 0, Go.Abs.AV.int Go.IntKind.i64 0, Go.Abs.AV.bool false, Go.Abs.AV.int Go.IntKind.u8 0]) := by kernel_rfl
@[simp] theorem tsz8 : tsz Try.prog 8 = some 4 := by kernel_rfl
@[simp] theorem tbytes8 : tbytes Try.prog 8 = some 24 := by kernel_rfl
@[simp] theorem tagg8 : tagg Try.prog 8 = some true := by kernel_rfl
@[simp] theorem tzero8 : tzero Try.prog 8 = some (Go.Abs.AV.agg [Go.Abs.AV.int Go.IntKind.i64 0, Go.Abs.AV.int Go.IntKind.i64 0, Go.Abs.AV.bool false, Go.Abs.AV.int Go.IntKind.u8 0]) := by kernel_rfl
@[simp] theorem tsz9 : tsz Try.prog 9 = some 1 := by kernel_rfl
@[simp] theorem tbytes9 : tbytes Try.prog 9 = some 16 := by kernel_rfl
@[simp] theorem tagg9 : tagg Try.prog 9 = some false := by kernel_rfl
@[simp] theorem tzero9 : tzero Try.prog 9 = some (Go.Abs.AV.str []) := by kernel_rfl
@[simp] theorem isStrT9 : isStrT Try.prog 9 = true := by kernel_rfl
@[simp] theorem bytesT9 : bytesT Try.prog 9 = false := by kernel_rfl
@[simp] theorem tsz10 : tsz Try.prog 10 = some 1 := by kernel_rfl
@[simp] theorem tbytes10 : tbytes Try.prog 10 = some 16 := by kernel_rfl
@[simp] theorem tagg10 : tagg Try.prog 10 = some false := by kernel_rfl
@[simp] theorem tzero10 : tzero Try.prog 10 = some (Go.Abs.AV.str []) := by kernel_rfl
@[simp] theorem isStrT10 : isStrT Try.prog 10 = true := by kernel_rfl
@[simp] theorem bytesT10 : bytesT Try.prog 10 = false := by kernel_rfl
@[simp] theorem tsz11 : tsz Try.prog 11 = some 1 := by kernel_rfl
@[simp] theorem tbytes11 : tbytes Try.prog 11 = some 16 := by kernel_rfl
@[simp] theorem tagg11 : tagg Try.prog 11 = some false := by kernel_rfl
@[simp] theorem tzero11 : tzero Try.prog 11 = some (Go.Abs.AV.str []) := by kernel_rfl
@[simp] theorem isStrT11 : isStrT Try.prog 11 = true := by kernel_rfl
@[simp] theorem bytesT11 : bytesT Try.prog 11 = false := by kernel_rfl
@[simp] theorem tsz12 : tsz Try.prog 12 = some 1 := by kernel_rfl
@[simp] theorem tbytes12 : tbytes Try.prog 12 = some 8 := by kernel_rfl
@[simp] theorem tagg12 : tagg Try.prog 12 = some false := by kernel_rfl
@[simp] theorem tzero12 : tzero Try.prog 12 = some (Go.Abs.AV.int Go.IntKind.u64 0) := by kernel_rfl
@[simp] theorem intT12 : intT Try.prog 12 = some .u64 := by kernel_rfl
@[simp] theorem tsz13 : tsz Try.prog 13 = some 2 := by kernel_rfl
@[simp] theorem tbytes13 : tbytes Try.prog 13 = some 24 := by kernel_rfl
@[simp] theorem tagg13 : tagg Try.prog 13 = some true := by kernel_rfl
@[simp] theorem tzero13 : tzero Try.prog 13 = some (Go.Abs.AV.agg [Go.Abs.AV.str [], Go.Abs.AV.int Go.IntKind.u64 0]) := by kernel_rfl
@[simp] theorem tsz14 : tsz Try.prog 14 = some 2 := by kernel_rfl
@[simp] theorem tbytes14 : tbytes Try.prog 14 = some 24 := by kernel_rfl
@[simp] theorem tagg14 : tagg Try.prog 14 = some true := by kernel_rfl
@[simp] theorem tzero14 : tzero Try.prog 14 = some (Go.Abs.AV.agg [Go.Abs.AV.str [], Go.Abs.AV.int Go.IntKind.u64 0]) := by kernel_rfl
@[simp] theorem tsz15 : tsz Try.prog 15 = some 1 := by kernel_rfl
@[simp] theorem tbytes15 : tbytes Try.prog 15 = some 8 := by kernel_rfl
@[simp] theorem tagg15 : tagg Try.prog 15 = some false := by kernel_rfl
@[simp] theorem tzero15 : tzero Try.prog 15 = some (Go.Abs.AV.ptr none) := by kernel_rfl
@[simp] theorem isPtrT15 : isPtrT Try.prog 15 = true := by kernel_rfl
@[simp] theorem tsz16 : tsz Try.prog 16 = some 1 := by kernel_rfl
@[simp] theorem tbytes16 : tbytes Try.prog 16 = some 8 := by kernel_rfl
@[simp] theorem tagg16 : tagg Try.prog 16 = some false := by kernel_rfl
@[simp] theorem tzero16 : tzero Try.prog 16 = some (Go.Abs.AV.ptr none) := by kernel_rfl
@[simp] theorem isPtrT16 : isPtrT Try.prog 16 = true := by kernel_rfl
@[simp] theorem tsz17 : tsz Try.prog 17 = some 1 := by kernel_rfl
@[simp] theorem tbytes17 : tbytes Try.prog 17 = some 8 := by kernel_rfl
@[simp] theorem tagg17 : tagg Try.prog 17 = some false := by kernel_rfl
@[simp] theorem tzero17 : tzero Try.prog 17 = some (Go.Abs.AV.ptr none) := by kernel_rfl
@[simp] theorem isPtrT17 : isPtrT Try.prog 17 = true := by kernel_rfl
@[simp] theorem tsz18 : tsz Try.prog 18 = some 1 := by kernel_rfl
@[simp] theorem tbytes18 : tbytes Try.prog 18 = some 8 := by kernel_rfl
@[simp] theorem tagg18 : tagg Try.prog 18 = some true := by kernel_rfl
@[simp] theorem tzero18 : tzero Try.prog 18 = some (Go.Abs.AV.agg [Go.Abs.AV.ptr none]) := by kernel_rfl
@[simp] theorem tsz19 : tsz Try.prog 19 = some 1 := by kernel_rfl
@[simp] theorem tbytes19 : tbytes Try.prog 19 = some 8 := by kernel_rfl
@[simp] theorem tagg19 : tagg Try.prog 19 = some true := by kernel_rfl
@[simp] theorem tzero19 : tzero Try.prog 19 = some (Go.Abs.AV.agg [Go.Abs.AV.ptr none]) := by kernel_rfl
@[simp] theorem tsz21 : tsz Try.prog 21 = some 1 := by kernel_rfl
@[simp] theorem tbytes21 : tbytes Try.prog 21 = some 4 := by kernel_rfl
@[simp] theorem tagg21 : tagg Try.prog 21 = some false := by kernel_rfl
@[simp] theorem tzero21 : tzero Try.prog 21 = some (Go.Abs.AV.int Go.IntKind.i32 0) := by kernel_rfl
@[simp] theorem intT21 : intT Try.prog 21 = some .i32 := by kernel_rfl
@[simp] theorem tsz22 : tsz Try.prog 22 = some 1 := by kernel_rfl
@[simp] theorem tbytes22 : tbytes Try.prog 22 = some 4 := by kernel_rfl
@[simp] theorem tagg22 : tagg Try.prog 22 = some false := by kernel_rfl
@[simp] theorem tzero22 : tzero Try.prog 22 = some (Go.Abs.AV.int Go.IntKind.u32 0) := by kernel_rfl
@[simp] theorem intT22 : intT Try.prog 22 = some .u32 := by kernel_rfl
@[simp] theorem tsz23 : tsz Try.prog 23 = some 1 := by kernel_rfl
@[simp] theorem tbytes23 : tbytes Try.prog 23 = some 4 := by kernel_rfl
@[simp] theorem tagg23 : tagg Try.prog 23 = some false := by kernel_rfl
@[simp] theorem tzero23 : tzero Try.prog 23 = some (Go.Abs.AV.int Go.IntKind.u32 0) := by kernel_rfl
@[simp] theorem intT23 : intT Try.prog 23 = some .u32 := by kernel_rfl
@[simp] theorem tsz24 : tsz Try.prog 24 = some 1 := by kernel_rfl
@[simp] theorem tbytes24 : tbytes Try.prog 24 = some 24 := by kernel_rfl
@[simp] theorem tagg24 : tagg Try.prog 24 = some false := by kernel_rfl
@[simp] theorem tzero24 : tzero Try.prog 24 = some (Go.Abs.AV.slice none 0 0 none) := by kernel_rfl
@[simp] theorem isStrT24 : isStrT Try.prog 24 = false := by kernel_rfl
@[simp] theorem bytesT24 : bytesT Try.prog 24 = false := by kernel_rfl
@[simp] theorem elemT24 : elemT Try.prog 24 = some 3 := by kernel_rfl
@[simp] theorem isSliceT24 : isSliceT Try.prog 24 = true := by kernel_rfl
@[simp] theorem elemS24 : elemS Try.prog 24 = some 1 := by kernel_rfl
@[simp] theorem elemF24 : elemF Try.prog 24 = some (3, 8, 1, [Go.Abs.AV.int Go.IntKind.i64 0]) := by kernel_rfl
@[simp] theorem tsz25 : tsz Try.prog 25 = some 2 := by kernel_rfl
@[simp] theorem tbytes25 : tbytes Try.prog 25 = some 32 := by kernel_rfl
@[simp] theorem tagg25 : tagg Try.prog 25 = some true := by kernel_rfl
@[simp] theorem tzero25 : tzero Try.prog 25 = some (Go.Abs.AV.agg [Go.Abs.AV.bool false, Go.Abs.AV.slice none 0 0 none]) := by kernel_rfl
@[simp] theorem tsz26 : tsz Try.prog 26 = some 2 := by kernel_rfl
@[simp] theorem tbytes26 : tbytes Try.prog 26 = some 32 := by kernel_rfl
@[simp] theorem tagg26 : tagg Try.prog 26 = some true := by kernel_rfl
@[simp] theorem tzero26 : tzero Try.prog 26 = some (Go.Abs.AV.agg [Go.Abs.AV.bool false, Go.Abs.AV.slice none 0 0 none]) := by kernel_rfl
@[simp] theorem tsz27 : tsz Try.prog 27 = some 5 := by kernel_rfl
@[simp] theorem tbytes27 : tbytes Try.prog 27 = some 56 := by kernel_rfl
@[simp] theorem tagg27 : tagg Try.prog 27 = some true := by kernel_rfl
@[simp] theorem tzero27 : tzero Try.prog 27 = some (Go.Abs.AV.agg [Go.Abs.AV.int Go.IntKind.i64 0, Go.Abs.AV.int Go.IntKind.u32 0, Go.Abs.AV.bool false, Go.Abs.AV.slice none 0 0 none, Go.Abs.AV.int Go.IntKind.i64 0]) := by kernel_rfl
@[simp] theorem tsz28 : tsz Try.prog 28 = some 5 := by kernel_rfl
@[simp] theorem tbytes28 : tbytes Try.prog 28 = some 56 := by kernel_rfl
@[simp] theorem tagg28 : tagg Try.prog 28 = some true := by kernel_rfl
@[simp] theorem tzero28 : tzero Try.prog 28 = some (Go.Abs.AV.agg [Go.Abs.AV.int Go.IntKind.i64 0, Go.Abs.AV.int Go.IntKind.u32 0, Go.Abs.AV.bool false, Go.Abs.AV.slice none 0 0 none, Go.Abs.AV.int Go.IntKind.i64 0]) := by kernel_rfl
@[simp] theorem tsz29 : tsz Try.prog 29 = some 8 := by kernel_rfl
@[simp] theorem tbytes29 : tbytes Try.prog 29 = some 96 := by kernel_rfl
@[simp] theorem tagg29 : tagg Try.prog 29 = some true := by kernel_rfl
@[simp] theorem tzero29 : tzero Try.prog 29 = some (Go.Abs.AV.agg [Go.Abs.AV.int Go.IntKind.i64 0, Go.Abs.AV.int Go.IntKind.i64 0, Go.Abs.AV.int Go.IntKind.i64 0, Go.Abs.AV.int Go.IntKind.u32 0, Go.Abs.AV.bool false, Go.Abs.AV.slice none 0 0 none, Go.Abs.AV.int Go.IntKind.i64 0, Go.Abs.AV.slice none 0 0 none]) := by kernel_rfl
@[simp] theorem tsz30 : tsz Try.prog 30 = some 8 := by kernel_rfl
@[simp] theorem tbytes30 : tbytes Try.prog 30 = some 96 := by kernel_rfl
@[simp] theorem tagg30 : tagg Try.prog 30 = some true := by kernel_rfl
@[simp] theorem tzero30 : tzero Try.prog 30 = some (Go.Abs.AV.agg [Go.Abs.AV.int Go.IntKind.i64 0, Go.Abs.AV.int Go.IntKind.i64 0, Go.Abs.AV.int Go.IntKind.i64 0, Go.Abs.AV.int Go.IntKind.u32 0, Go.Abs.AV.bool false, Go.Abs.AV.slice none 0 0 none, Go.Abs.AV.int Go.IntKind.i64 0, Go.Abs.AV.slice none 0 0 none]) := by kernel_rfl
@[simp] theorem tsz31 : tsz Try.prog 31 = some 1 := by kernel_rfl
@[simp] theorem tbytes31 : tbytes Try.prog 31 = some 8 := by kernel_rfl
@[simp] theorem tagg31 : tagg Try.prog 31 = some false := by kernel_rfl
@[simp] theorem tzero31 : tzero Try.prog 31 = some (Go.Abs.AV.ptr none) := by kernel_rfl
@[simp] theorem isPtrT31 : isPtrT Try.prog 31 = true := by kernel_rfl
@[simp] theorem tsz35 : tsz Try.prog 35 = some 1 := by kernel_rfl
@[simp] theorem tbytes35 : tbytes Try.prog 35 = some 8 := by kernel_rfl
@[simp] theorem tagg35 : tagg Try.prog 35 = some false := by kernel_rfl
@[simp] theorem tzero35 : tzero Try.prog 35 = some (Go.Abs.AV.int Go.IntKind.i64 0) := by kernel_rfl
@[simp] theorem intT35 : intT Try.prog 35 = some .i64 := by kernel_rfl
@[simp] theorem tsz46 : tsz Try.prog 46 = some 1 := by kernel_rfl
@[simp] theorem tbytes46 : tbytes Try.prog 46 = some 24 := by kernel_rfl
@[simp] theorem tagg46 : tagg Try.prog 46 = some false := by kernel_rfl
@[simp] theorem tzero46 : tzero Try.prog 46 = some (Go.Abs.AV.slice none 0 0 none) := by kernel_rfl
@[simp] theorem isStrT46 : isStrT Try.prog 46 = false := by kernel_rfl
@[simp] theorem bytesT46 : bytesT Try.prog 46 = false := by kernel_rfl
@[simp] theorem elemT46 : elemT Try.prog 46 = some 30 := by kernel_rfl
@[simp] theorem isSliceT46 : isSliceT Try.prog 46 = true := by kernel_rfl
@[simp] theorem elemS46 : elemS Try.prog 46 = some 8 := by kernel_rfl
@[simp] theorem elemF46 : elemF Try.prog 46 = some (30, 96, 8, [Go.Abs.AV.int Go.IntKind.i64 0, Go.Abs.AV.int Go.IntKind.i64 0, Go.Abs.AV.int Go.IntKind.i64 0, Go.Abs.AV.int Go.IntKind.u32 0, Go.Abs.AV.bool false, Go.Abs.AV.slice none 0 0 none, Go.Abs.AV.int Go.IntKind.i64 0, Go.Abs.AV.slice none 0 0 none]) := by kernel_rfl
@[simp] theorem tsz47 : tsz Try.prog 47 = some 1 := by kernel_rfl
@[simp] theorem tbytes47 : tbytes Try.prog 47 = some 24 := by kernel_rfl
@[simp] theorem tagg47 : tagg Try.prog 47 = some false := by kernel_rfl
@[simp] theorem tzero47 : tzero Try.prog 47 = some (Go.Abs.AV.slice none 0 0 none) := by kernel_rfl
@[simp] theorem isStrT47 : isStrT Try.prog 47 = false := by kernel_rfl
@[simp] theorem bytesT47 : bytesT Try.prog 47 = false := by kernel_rfl
@[simp] theorem elemT47 : elemT Try.prog 47 = some 28 := by kernel_rfl
@[simp] theorem isSliceT47 : isSliceT Try.prog 47 = true := by kernel_rfl
@[simp] theorem elemS47 : elemS Try.prog 47 = some 5 := by kernel_rfl
@[simp] theorem elemF47 : elemF Try.prog 47 = some (28, 56, 5, [Go.Abs.AV.int Go.IntKind.i64 0, Go.Abs.AV.int Go.IntKind.u32 0, Go.Abs.AV.bool false, Go.Abs.AV.slice none 0 0 none, Go.Abs.AV.int Go.IntKind.i64 0]) := by kernel_rfl
@[simp] theorem tsz65 : tsz Try.prog 65 = some 1 := by kernel_rfl
@[simp] theorem tbytes65 : tbytes Try.prog 65 = some 24 := by kernel_rfl
@[simp] theorem tagg65 : tagg Try.prog 65 = some false := by kernel_rfl
@[simp] theorem tzero65 : tzero Try.prog 65 = some (Go.Abs.AV.slice none 0 0 none) := by kernel_rfl
@[simp] theorem isStrT65 : isStrT Try.prog 65 = false := by kernel_rfl
@[simp] theorem bytesT65 : bytesT Try.prog 65 = false := by kernel_rfl
@[simp] theorem elemT65 : elemT Try.prog 65 = some 71 := by kernel_rfl
@[simp] theorem isSliceT65 : isSliceT Try.prog 65 = true := by kernel_rfl
@[simp] theorem elemS65 : elemS Try.prog 65 = some 1 := by kernel_rfl
@[simp] theorem elemF65 : elemF Try.prog 65 = some (71, 8, 1, [Go.Abs.AV.ptr none]) := by kernel_rfl
@[simp] theorem tsz66 : tsz Try.prog 66 = some 1 := by kernel_rfl
@[simp] theorem tbytes66 : tbytes Try.prog 66 = some 24 := by kernel_rfl
@[simp] theorem tagg66 : tagg Try.prog 66 = some true := by kernel_rfl
@[simp] theorem tzero66 : tzero Try.prog 66 = some (Go.Abs.AV.agg [Go.Abs.AV.slice none 0 0 none]) := by kernel_rfl
@[simp] theorem tsz67 : tsz Try.prog 67 = some 1 := by kernel_rfl
@[simp] theorem tbytes67 : tbytes Try.prog 67 = some 24 := by kernel_rfl
@[simp] theorem tagg67 : tagg Try.prog 67 = some true := by kernel_rfl
@[simp] theorem tzero67 : tzero Try.prog 67 = some (Go.Abs.AV.agg [Go.Abs.AV.slice none 0 0 none]) := by kernel_rfl
@[simp] theorem tsz71 : tsz Try.prog 71 = some 1 := by kernel_rfl
@[simp] theorem tbytes71 : tbytes Try.prog 71 = some 8 := by kernel_rfl
@[simp] theorem tagg71 : tagg Try.prog 71 = some false := by kernel_rfl
@[simp] theorem tzero71 : tzero Try.prog 71 = some (Go.Abs.AV.ptr none) := by kernel_rfl
@[simp] theorem isPtrT71 : isPtrT Try.prog 71 = true := by kernel_rfl
@[simp] theorem tsz94 : tsz Try.prog 94 = some 1 := by kernel_rfl
@[simp] theorem tbytes94 : tbytes Try.prog 94 = some 8 := by kernel_rfl
@[simp] theorem tagg94 : tagg Try.prog 94 = some false := by kernel_rfl
@[simp] theorem tzero94 : tzero Try.prog 94 = some (Go.Abs.AV.int Go.IntKind.u64 0) := by kernel_rfl
@[simp] theorem intT94 : intT Try.prog 94 = some .u64 := by kernel_rfl
@[simp] theorem tsz105 : tsz Try.prog 105 = some 1 := by kernel_rfl
@[simp] theorem tbytes105 : tbytes Try.prog 105 = some 8 := by kernel_rfl
@[simp] theorem tagg105 : tagg Try.prog 105 = some false := by kernel_rfl
@[simp] theorem tzero105 : tzero Try.prog 105 = some (Go.Abs.AV.int Go.IntKind.i64 0) := by kernel_rfl
@[simp] theorem intT105 : intT Try.prog 105 = some .i64 := by kernel_rfl
@[simp] theorem tsz113 : tsz Try.prog 113 = some 1 := by kernel_rfl
@[simp] theorem tbytes113 : tbytes Try.prog 113 = some 8 := by kernel_rfl
@[simp] theorem tagg113 : tagg Try.prog 113 = some false := by kernel_rfl
@[simp] theorem tzero113 : tzero Try.prog 113 = some (Go.Abs.AV.int Go.IntKind.u64 0) := by kernel_rfl
@[simp] theorem intT113 : intT Try.prog 113 = some .u64 := by kernel_rfl
@[simp] theorem tsz114 : tsz Try.prog 114 = some 1 := by kernel_rfl
@[simp] theorem tbytes114 : tbytes Try.prog 114 = some 8 := by kernel_rfl
@[simp] theorem tagg114 : tagg Try.prog 114 = some false := by kernel_rfl
@[simp] theorem tzero114 : tzero Try.prog 114 = some (Go.Abs.AV.int Go.IntKind.u64 0) := by kernel_rfl
@[simp] theorem intT114 : intT Try.prog 114 = some .u64 := by kernel_rfl
@[simp] theorem tsz118 : tsz Try.prog 118 = some 1 := by kernel_rfl
@[simp] theorem tbytes118 : tbytes Try.prog 118 = some 8 := by kernel_rfl
@[simp] theorem tagg118 : tagg Try.prog 118 = some false := by kernel_rfl
@[simp] theorem tzero118 : tzero Try.prog 118 = some (Go.Abs.AV.ptr none) := by kernel_rfl
@[simp] theorem isPtrT118 : isPtrT Try.prog 118 = true := by kernel_rfl
@[simp] theorem tsz120 : tsz Try.prog 120 = some 1 := by kernel_rfl
@[simp] theorem tbytes120 : tbytes Try.prog 120 = some 8 := by kernel_rfl
@[simp] theorem tagg120 : tagg Try.prog 120 = some false := by kernel_rfl
@[simp] theorem tzero120 : tzero Try.prog 120 = some (Go.Abs.AV.ptr none) := by kernel_rfl
@[simp] theorem isPtrT120 : isPtrT Try.prog 120 = true := by kernel_rfl
@[simp] theorem tsz124 : tsz Try.prog 124 = some 4 := by kernel_rfl
@[simp] theorem tbytes124 : tbytes Try.prog 124 = some 40 := by kernel_rfl
@[simp] theorem tagg124 : tagg Try.prog 124 = some true := by kernel_rfl
@[simp] theorem tzero124 : tzero Try.prog 124 = some (Go.Abs.AV.agg [Go.Abs.AV.ptr none, Go.Abs.AV.ptr none, Go.Abs.AV.ptr none, Go.Abs.AV.str []]) := by kernel_rfl
@[simp] theorem tsz125 : tsz Try.prog 125 = some 4 := by kernel_rfl
@[simp] theorem tbytes125 : tbytes Try.prog 125 = some 40 := by kernel_rfl
@[simp] theorem tagg125 : tagg Try.prog 125 = some true := by kernel_rfl
@[simp] theorem tzero125 : tzero Try.prog 125 = some (Go.Abs.AV.agg [Go.Abs.AV.ptr none, Go.Abs.AV.ptr none, Go.Abs.AV.ptr none, Go.Abs.AV.str []]) := by kernel_rfl
@[simp] theorem tsz126 : tsz Try.prog 126 = some 0 := by kernel_rfl
@[simp] theorem tbytes126 : tbytes Try.prog 126 = some 0 := by kernel_rfl
@[simp] theorem tagg126 : tagg Try.prog 126 = some true := by kernel_rfl
@[simp] theorem tzero126 : tzero Try.prog 126 = some (Go.Abs.AV.agg []) := by kernel_rfl
@[simp] theorem isArrT126 : isArrT Try.prog 126 = some 0 := by kernel_rfl
@[simp] theorem elemA126 : elemA Try.prog 126 = some (0, 1) := by kernel_rfl
@[simp] theorem tsz127 : tsz Try.prog 127 = some 0 := by kernel_rfl
@[simp] theorem tbytes127 : tbytes Try.prog 127 = some 0 := by kernel_rfl
@[simp] theorem tagg127 : tagg Try.prog 127 = some true := by kernel_rfl
@[simp] theorem tzero127 : tzero Try.prog 127 = some (Go.Abs.AV.agg []) := by kernel_rfl
@[simp] theorem tsz128 : tsz Try.prog 128 = some 0 := by kernel_rfl
@[simp] theorem tbytes128 : tbytes Try.prog 128 = some 0 := by kernel_rfl
@[simp] theorem tagg128 : tagg Try.prog 128 = some true := by kernel_rfl
@[simp] theorem tzero128 : tzero Try.prog 128 = some (Go.Abs.AV.agg []) := by kernel_rfl
@[simp] theorem tsz129 : tsz Try.prog 129 = some 1 := by kernel_rfl
@[simp] theorem tbytes129 : tbytes Try.prog 129 = some 1 := by kernel_rfl
@[simp] theorem tagg129 : tagg Try.prog 129 = some false := by kernel_rfl
@[simp] theorem tzero129 : tzero Try.prog 129 = some (Go.Abs.AV.int Go.IntKind.u8 0) := by kernel_rfl
@[simp] theorem intT129 : intT Try.prog 129 = some .u8 := by kernel_rfl
@[simp] theorem tsz130 : tsz Try.prog 130 = some 1 := by kernel_rfl
@[simp] theorem tbytes130 : tbytes Try.prog 130 = some 1 := by kernel_rfl
@[simp] theorem tagg130 : tagg Try.prog 130 = some false := by kernel_rfl
@[simp] theorem tzero130 : tzero Try.prog 130 = some (Go.Abs.AV.int Go.IntKind.u8 0) := by kernel_rfl
@[simp] theorem intT130 : intT Try.prog 130 = some .u8 := by kernel_rfl
@[simp] theorem tsz132 : tsz Try.prog 132 = some 1 := by kernel_rfl
@[simp] theorem tbytes132 : tbytes Try.prog 132 = some 8 := by kernel_rfl
@[simp] theorem tagg132 : tagg Try.prog 132 = some false := by kernel_rfl
@[simp] theorem tzero132 : tzero Try.prog 132 = some (Go.Abs.AV.ptr none) := by kernel_rfl
@[simp] theorem isPtrT132 : isPtrT Try.prog 132 = true := by kernel_rfl
@[simp] theorem tsz133 : tsz Try.prog 133 = some 1 := by kernel_rfl
@[simp] theorem tbytes133 : tbytes Try.prog 133 = some 4 := by kernel_rfl
@[simp] theorem tagg133 : tagg Try.prog 133 = some false := by kernel_rfl
@[simp] theorem tzero133 : tzero Try.prog 133 = some (Go.Abs.AV.int Go.IntKind.i32 0) := by kernel_rfl
@[simp] theorem intT133 : intT Try.prog 133 = some .i32 := by kernel_rfl
@[simp] theorem tsz134 : tsz Try.prog 134 = some 1 := by kernel_rfl
@[simp] theorem tbytes134 : tbytes Try.prog 134 = some 4 := by kernel_rfl
@[simp] theorem tagg134 : tagg Try.prog 134 = some false := by kernel_rfl
@[simp] theorem tzero134 : tzero Try.prog 134 = some (Go.Abs.AV.int Go.IntKind.i32 0) := by kernel_rfl
@[simp] theorem intT134 : intT Try.prog 134 = some .i32 := by kernel_rfl
@[simp] theorem tsz135 : tsz Try.prog 135 = some 11 := by kernel_rfl
@[simp] theorem tbytes135 : tbytes Try.prog 135 = some 48 := by kernel_rfl
@[simp] theorem tagg135 : tagg Try.prog 135 = some true := by kernel_rfl
@[simp] theorem tzero135 : tzero Try.prog 135 = some (Go.Abs.AV.agg [Go.Abs.AV.int Go.IntKind.u64 0, Go.Abs.AV.int Go.IntKind.u64 0, Go.Abs.AV.int Go.IntKind.u32 0, Go.Abs.AV.int Go.IntKind.u8 0, Go.Abs.AV.int Go.IntKind.u8 0, Go.Abs.AV.int Go.IntKind.u8 0, Go.Abs.AV.int Go.IntKind.u8 0, Go.Abs.AV.nilFunc, Go.Abs.AV.ptr none, Go.Abs.AV.int Go.IntKind.i32 0, Go.Abs.AV.int Go.IntKind.i32 0]) := by kernel_rfl
@[simp] theorem tsz136 : tsz Try.prog 136 = some 11 := by kernel_rfl
@[simp] theorem tbytes136 : tbytes Try.prog 136 = some 48 := by kernel_rfl
@[simp] theorem tagg136 : tagg Try.prog 136 = some true := by kernel_rfl
@[simp] theorem tzero136 : tzero Try.prog 136 = some (Go.Abs.AV.agg [Go.Abs.AV.int Go.IntKind.u64 0, Go.Abs.AV.int Go.IntKind.u64 0, Go.Abs.AV.int Go.IntKind.u32 0, Go.Abs.AV.int Go.IntKind.u8 0, Go.Abs.AV.int Go.IntKind.u8 0, Go.Abs.AV.int Go.IntKind.u8 0, Go.Abs.AV.int Go.IntKind.u8 0, Go.Abs.AV.nilFunc, Go.Abs.AV.ptr none, Go.Abs.AV.int Go.IntKind.i32 0, Go.Abs.AV.int Go.IntKind.i32 0]) := by kernel_rfl
@[simp] theorem tsz137 : tsz Try.prog 137 = some 1 := by kernel_rfl
@[simp] theorem tbytes137 : tbytes Try.prog 137 = some 8 := by kernel_rfl
@[simp] theorem tagg137 : tagg Try.prog 137 = some false := by kernel_rfl
@[simp] theorem tzero137 : tzero Try.prog 137 = some (Go.Abs.AV.ptr none) := by kernel_rfl

end Go.Abs
