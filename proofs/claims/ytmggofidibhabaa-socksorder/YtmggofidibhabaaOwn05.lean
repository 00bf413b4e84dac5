/- Texts on this program, joined. -/
import Derived.Test.YtmggofidibhabaaKit04
import Derived.Test.YtmggofidibhabaaProg
import Derived.KernelRfl

/- The sizes, zero values and kinds of the types of this seat's program, for the walks. -/
namespace Go.Abs
set_option linter.unusedVariables false
open Go.Proofs
set_option maxRecDepth 100000

@[simp] theorem tsz2 : tsz Try.prog 2 = some 1 := by kernel_rfl
@[simp] theorem tbytes2 : tbytes Try.prog 2 = some 8 := by kernel_rfl
@[simp] theorem tagg2 : tagg Try.prog 2 = some false := by kernel_rfl
@[simp] theorem tzero2 : tzero Try.prog 2 = some (Go.Abs.AV.int Go.IntKind.i64 0) := by kernel_rfl
@[simp] theorem intT2 : intT Try.prog 2 = some .i64 := by kernel_rfl
@[simp] theorem tsz3 : tsz Try.prog 3 = some 1 := by kernel_rfl
@[simp] theorem tbytes3 : tbytes Try.prog 3 = some 8 := by kernel_rfl
@[simp] theorem tagg3 : tagg Try.prog 3 = some false := by kernel_rfl
@[simp] theorem tzero3 : tzero Try.prog 3 = some (Go.Abs.AV.int Go.IntKind.i64 0) := by kernel_rfl
@[simp] theorem intT3 : intT Try.prog 3 = some .i64 := by kernel_rfl
@[simp] theorem tsz4 : tsz Try.prog 4 = some 1 := by kernel_rfl
@[simp] theorem tbytes4 : tbytes Try.prog 4 = some 1 := by kernel_rfl
@[simp] theorem tagg4 : tagg Try.prog 4 = some false := by kernel_rfl
@[simp] theorem tzero4 : tzero Try.prog 4 = some (Go.Abs.AV.bool false) := by kernel_rfl
@[simp] theorem isBoolT4 : isBoolT Try.prog 4 = true := by kernel_rfl
@[simp] theorem tsz5 : tsz Try.prog 5 = some 1 := by kernel_rfl
@[simp] theorem tbytes5 : tbytes Try.prog 5 = some 1 := by kernel_rfl
@[simp] theorem tagg5 : tagg Try.prog 5 = some false := by kernel_rfl
@[simp] theorem tzero5 : tzero Try.prog 5 = some (Go.Abs.AV.int Go.IntKind.u8 0) := by kernel_rfl
@[simp] theorem intT5 : intT Try.prog 5 = some .u8 := by kernel_rfl
@[simp] theorem tsz6 : tsz Try.prog 6 = some 1 := by kernel_rfl
@[simp] theorem tbytes6 : tbytes Try.prog 6 = some 1 := by kernel_rfl
@[simp] theorem tagg6 : tagg Try.prog 6 = some false := by kernel_rfl
@[simp] theorem tzero6 : tzero Try.prog 6 = some (Go.Abs.AV.int Go.IntKind.u8 0) := by kernel_rfl
@[simp] theorem intT6 : intT Try.prog 6 = some .u8 := by kernel_rfl
@[simp] theorem tsz7 : tsz Try.prog 7 = some 4 := by kernel_rfl
@[simp] theorem tbytes7 : tbytes Try.prog 7 = some 24 := by kernel_rfl
@[simp] theorem tagg7 : tagg Try.prog 7 = some true := by kernel_rfl
@[simp] theorem tzero7 : tzero Try.prog 7 = some (Go.Abs.AV.agg [Go.Abs.AV.int Go.IntKind.i64 0, Go.Abs.AV.int Go.IntKind.i64 0, Go.Abs.AV.bool false, Go.Abs.AV.int Go.IntKind.u8 0]) := by kernel_rfl
@[simp] theorem tsz8 : tsz Try.prog 8 = some 4 := by kernel_rfl
@[simp] theorem tbytes8 : tbytes Try.prog 8 = some 24 := by kernel_rfl
@[simp] theorem tagg8 : tagg Try.prog 8 = some true := by kernel_rfl
@[simp] theorem tzero8 : tzero Try.prog 8 = some (Go.Abs.AV.agg [Go.Abs.AV.int Go.IntKind.i64 0, Go.Abs.AV.int Go.IntKind.i64 0, Go.Abs.AV.bool false, Go.Abs.AV.int Go.IntKind.u8 0]) := by kernel_rfl
@[simp] theorem tsz9 : tsz Try.prog 9 = some 1 := by kernel_rfl
@[simp] theorem tbytes9 : tbytes Try.prog 9 = some 16 := by kernel_rfl
@[simp] theorem tagg9 : tagg Try.prog 9 = some false := by kernel_rfl
@[simp] theorem tzero9 : tzero Try.prog 9 = some (Go.Abs.AV.str []) := by kernel_rfl
@[simp] theorem isStrT9 : isStrT Try.prog 9 = true := by kernel_rfl
@[simp] theorem bytesT9 : bytesT Try.prog 9 = false := by kernel_rfl
@[simp] theorem tsz10 : tsz Try.prog 10 = some 1 := by kernel_rfl
@[simp] theorem tbytes10 : tbytes Try.prog 10 = some 16 := by kernel_rfl
@[simp] theorem tagg10 : tagg Try.prog 10 = some false := by kernel_rfl
@[simp] theorem tzero10 : tzero Try.prog 10 = some (Go.Abs.AV.str []) := by kernel_rfl
@[simp] theorem isStrT10 : isStrT Try.prog 10 = true := by kernel_rfl
@[simp] theorem bytesT10 : bytesT Try.prog 10 = false := by kernel_rfl
@[simp] theorem tsz11 : tsz Try.prog 11 = some 1 := by kernel_rfl
@[simp] theorem tbytes11 : tbytes Try.prog 11 = some 16 := by kernel_rfl
@[simp] theorem tagg11 : tagg Try.prog 11 = some false := by kernel_rfl
@[simp] theorem tzero11 : tzero Try.prog 11 = some (Go.Abs.AV.str []) := by kernel_rfl
@[simp] theorem isStrT11 : isStrT Try.prog 11 = true := by kernel_rfl
@[simp] theorem bytesT11 : bytesT Try.prog 11 = false := by kernel_rfl
@[simp] theorem tsz12 : tsz Try.prog 12 = some 1 := by kernel_rfl
@[simp] theorem tbytes12 : tbytes Try.prog 12 = some 8 := by kernel_rfl
@[simp] theorem tagg12 : tagg Try.prog 12 = some false := by kernel_rfl
@[simp] theorem tzero12 : tzero Try.prog 12 = some (Go.Abs.AV.int Go.IntKind.u64 0) := by kernel_rfl
@[simp] theorem intT12 : intT Try.prog 12 = some .u64 := by kernel_rfl
@[simp] theorem tsz13 : tsz Try.prog 13 = some 2 := by kernel_rfl
@[simp] theorem tbytes13 : tbytes Try.prog 13 = some 24 := by kernel_rfl
@[simp] theorem tagg13 : tagg Try.prog 13 = some true := by kernel_rfl
@[simp] theorem tzero13 : tzero Try.prog 13 = some (Go.Abs.AV.agg [Go.Abs.AV.str [], Go.Abs.AV.int Go.IntKind.u64 0]) := by kernel_rfl
@[simp] theorem tsz14 : tsz Try.prog 14 = some 2 := by kernel_rfl
@[simp] theorem tbytes14 : tbytes Try.prog 14 = some 24 := by kernel_rfl
@[simp] theorem tagg14 : tagg Try.prog 14 = some true := by kernel_rfl
@[simp] theorem tzero14 : tzero Try.prog 14 = some (Go.Abs.AV.agg [Go.Abs.AV.str [], Go.Abs.AV.int Go.IntKind.u64 0]) := by kernel_rfl
@[simp] theorem tsz15 : tsz Try.prog 15 = some 1 := by kernel_rfl
@[simp] theorem tbytes15 : tbytes Try.prog 15 = some 8 := by kernel_rfl
@[simp] theorem tagg15 : tagg Try.prog 15 = some false := by kernel_rfl
@[simp] theorem tzero15 : tzero Try.prog 15 = some (Go.Abs.AV.ptr none) := by kernel_rfl
@[simp] theorem isPtrT15 : isPtrT Try.prog 15 = true := by kernel_rfl
@[simp] theorem tsz16 : tsz Try.prog 16 = some 1 := by kernel_rfl
@[simp] theorem tbytes16 : tbytes Try.prog 16 = some 8 := by kernel_rfl
@[simp] theorem tagg16 : tagg Try.prog 16 = some false := by kernel_rfl
@[simp] theorem tzero16 : tzero Try.prog 16 = some (Go.Abs.AV.ptr none) := by kernel_rfl
@[simp] theorem isPtrT16 : isPtrT Try.prog 16 = true := by kernel_rfl
@[simp] theorem tsz17 : tsz Try.prog 17 = some 1 := by kernel_rfl
@[simp] theorem tbytes17 : tbytes Try.prog 17 = some 8 := by kernel_rfl
@[simp] theorem tagg17 : tagg Try.prog 17 = some false := by kernel_rfl
@[simp] theorem tzero17 : tzero Try.prog 17 = some (Go.Abs.AV.ptr none) := by kernel_rfl
@[simp] theorem isPtrT17 : isPtrT Try.prog 17 = true := by kernel_rfl
@[simp] theorem tsz18 : tsz Try.prog 18 = some 1 := by kernel_rfl
@[simp] theorem tbytes18 : tbytes Try.prog 18 = some 8 := by kernel_rfl
@[simp] theorem tagg18 : tagg Try.prog 18 = some true := by kernel_rfl
@[simp] theorem tzero18 : tzero Try.prog 18 = some (Go.Abs.AV.agg [Go.Abs.AV.ptr none]) := by kernel_rfl
@[simp] theorem tsz19 : tsz Try.prog 19 = some 1 := by kernel_rfl
@[simp] theorem tbytes19 : tbytes Try.prog 19 = some 8 := by kernel_rfl
@[simp] theorem tagg19 : tagg Try.prog 19 = some true := by kernel_rfl
@[simp] theorem tzero19 : tzero Try.prog 19 = some (Go.Abs.AV.agg [Go.Abs.AV.ptr none]) := by kernel_rfl
@[simp] theorem tsz21 : tsz Try.prog 21 = some 1 := by kernel_rfl
@[simp] theorem tbytes21 : tbytes Try.prog 21 = some 4 := by kernel_rfl
@[simp] theorem tagg21 : tagg Try.prog 21 = some false := by kernel_rfl
@[simp] theorem tzero21 : tzero Try.prog 21 = some (Go.Abs.AV.int Go.IntKind.i32 0) := by kernel_rfl
@[simp] theorem intT21 : intT Try.prog 21 = some .i32 := by kernel_rfl
@[simp] theorem tsz22 : tsz Try.prog 22 = some 1 := by kernel_rfl
@[simp] theorem tbytes22 : tbytes Try.prog 22 = some 24 := by kernel_rfl
@[simp] theorem tagg22 : tagg Try.prog 22 = some false := by kernel_rfl
@[simp] theorem tzero22 : tzero Try.prog 22 = some (Go.Abs.AV.slice none 0 0 none) := by kernel_rfl
@[simp] theorem isStrT22 : isStrT Try.prog 22 = false := by kernel_rfl
@[simp] theorem bytesT22 : bytesT Try.prog 22 = false := by kernel_rfl
@[simp] theorem elemT22 : elemT Try.prog 22 = some 29 := by kernel_rfl
@[simp] theorem isSliceT22 : isSliceT Try.prog 22 = true := by kernel_rfl
@[simp] theorem elemS22 : elemS Try.prog 22 = some 5 := by kernel_rfl
@[simp] theorem elemF22 : elemF Try.prog 22 = some (29, 56, 5, [Go.Abs.AV.int Go.IntKind.i64 0, Go.Abs.AV.int Go.IntKind.i64 0, Go.Abs.AV.int Go.IntKind.i64 0, Go.Abs.AV.int Go.IntKind.i64 0, Go.Abs.AV.slice none 0 0 none]) := by kernel_rfl
@[simp] theorem tsz23 : tsz Try.prog 23 = some 1 := by kernel_rfl
@[simp] theorem tbytes23 : tbytes Try.prog 23 = some 8 := by kernel_rfl
@[simp] theorem tagg23 : tagg Try.prog 23 = some false := by kernel_rfl
@[simp] theorem tzero23 : tzero Try.prog 23 = some (Go.Abs.AV.ptr none) := by kernel_rfl
@[simp] theorem isPtrT23 : isPtrT Try.prog 23 = true := by kernel_rfl
@[simp] theorem tsz27 : tsz Try.prog 27 = some 1 := by kernel_rfl
@[simp] theorem tbytes27 : tbytes Try.prog 27 = some 24 := by kernel_rfl
@[simp] theorem tagg27 : tagg Try.prog 27 = some false := by kernel_rfl
@[simp] theorem tzero27 : tzero Try.prog 27 = some (Go.Abs.AV.slice none 0 0 none) := by kernel_rfl
@[simp] theorem isStrT27 : isStrT Try.prog 27 = false := by kernel_rfl
@[simp] theorem bytesT27 : bytesT Try.prog 27 = true := by kernel_rfl
@[simp] theorem elemT27 : elemT Try.prog 27 = some 5 := by kernel_rfl
@[simp] theorem isSliceT27 : isSliceT Try.prog 27 = true := by kernel_rfl
@[simp] theorem elemS27 : elemS Try.prog 27 = some 1 := by kernel_rfl
@[simp] theorem elemF27 : elemF Try.prog 27 = some (5, 1, 1, [Go.Abs.AV.int Go.IntKind.u8 0]) := by kernel_rfl
@[simp] theorem tsz28 : tsz Try.prog 28 = some 5 := by kernel_rfl
@[simp] theorem tbytes28 : tbytes Try.prog 28 = some 56 := by kernel_rfl
@[simp] theorem tagg28 : tagg Try.prog 28 = some true := by kernel_rfl
@[simp] theorem tzero28 : tzero Try.prog 28 = some (Go.Abs.AV.agg [Go.Abs.AV.int Go.IntKind.i64 0, Go.Abs.AV.int Go.IntKind.i64 0, Go.Abs.AV.int Go.IntKind.i64 0, Go.Abs.AV.int Go.IntKind.i64 0, Go.Abs.AV.slice none 0 0 none]) := by kernel_rfl
@[simp] theorem tsz29 : tsz Try.prog 29 = some 5 := by kernel_rfl
@[simp] theorem tbytes29 : tbytes Try.prog 29 = some 56 := by kernel_rfl
@[simp] theorem tagg29 : tagg Try.prog 29 = some true := by kernel_rfl
@[simp] theorem tzero29 : tzero Try.prog 29 = some (Go.Abs.AV.agg [Go.Abs.AV.int Go.IntKind.i64 0, Go.Abs.AV.int Go.IntKind.i64 0, Go.Abs.AV.int Go.IntKind.i64 0, Go.Abs.AV.int Go.IntKind.i64 0, Go.Abs.AV.slice none 0 0 none]) := by kernel_rfl
@[simp] theorem tsz30 : tsz Try.prog 30 = some 1 := by kernel_rfl
@[simp] theorem tbytes30 : tbytes Try.prog 30 = some 8 := by kernel_rfl
@[simp] theorem tagg30 : tagg Try.prog 30 = some false := by kernel_rfl
@[simp] theorem tzero30 : tzero Try.prog 30 = some (Go.Abs.AV.int Go.IntKind.i64 0) := by kernel_rfl
@[simp] theorem intT30 : intT Try.prog 30 = some .i64 := by kernel_rfl
@[simp] theorem tsz33 : tsz Try.prog 33 = some 1 := by kernel_rfl
@[simp] theorem tbytes33 : tbytes Try.prog 33 = some 24 := by kernel_rfl
@[simp] theorem tagg33 : tagg Try.prog 33 = some false := by kernel_rfl
@[simp] theorem tzero33 : tzero Try.prog 33 = some (Go.Abs.AV.slice none 0 0 none) := by kernel_rfl
@[simp] theorem isStrT33 : isStrT Try.prog 33 = false := by kernel_rfl
@[simp] theorem bytesT33 : bytesT Try.prog 33 = false := by kernel_rfl
@[simp] theorem elemT33 : elemT Try.prog 33 = some 61 := by kernel_rfl
@[simp] theorem isSliceT33 : isSliceT Try.prog 33 = true := by kernel_rfl
@[simp] theorem elemS33 : elemS Try.prog 33 = some 5 := by kernel_rfl
@[simp] theorem elemF33 : elemF Try.prog 33 = some (61, 56, 5, [Go.Abs.AV.int Go.IntKind.i64 0, Go.Abs.AV.int Go.IntKind.u32 0, Go.Abs.AV.bool false, Go.Abs.AV.slice none 0 0 none, Go.Abs.AV.int Go.IntKind.i64 0]) := by kernel_rfl
@[simp] theorem tsz41 : tsz Try.prog 41 = some 1 := by kernel_rfl
@[simp] theorem tbytes41 : tbytes Try.prog 41 = some 8 := by kernel_rfl
@[simp] theorem tagg41 : tagg Try.prog 41 = some false := by kernel_rfl
@[simp] theorem tzero41 : tzero Try.prog 41 = some (Go.Abs.AV.ptr none) := by kernel_rfl
@[simp] theorem isPtrT41 : isPtrT Try.prog 41 = true := by kernel_rfl
@[simp] theorem tsz43 : tsz Try.prog 43 = some 1 := by kernel_rfl
@[simp] theorem tbytes43 : tbytes Try.prog 43 = some 8 := by kernel_rfl
@[simp] theorem tagg43 : tagg Try.prog 43 = some false := by kernel_rfl
@[simp] theorem tzero43 : tzero Try.prog 43 = some (Go.Abs.AV.map none) := by kernel_rfl
@[simp] theorem isMapT43 : isMapT Try.prog 43 = true := by kernel_rfl
@[simp] theorem mapT43 : mapT Try.prog 43 = true := by kernel_rfl
@[simp] theorem keyT43 : keyT Try.prog 43 = some (3, 46) := by kernel_rfl
@[simp] theorem tsz44 : tsz Try.prog 44 = some 3 := by kernel_rfl
@[simp] theorem tbytes44 : tbytes Try.prog 44 = some 24 := by kernel_rfl
@[simp] theorem tagg44 : tagg Try.prog 44 = some true := by kernel_rfl
@[simp] theorem tzero44 : tzero Try.prog 44 = some (Go.Abs.AV.agg [Go.Abs.AV.map none, Go.Abs.AV.int Go.IntKind.i64 0, Go.Abs.AV.int Go.IntKind.i64 0]) := by kernel_rfl
@[simp] theorem tsz45 : tsz Try.prog 45 = some 3 := by kernel_rfl
@[simp] theorem tbytes45 : tbytes Try.prog 45 = some 24 := by kernel_rfl
@[simp] theorem tagg45 : tagg Try.prog 45 = some true := by kernel_rfl
@[simp] theorem tzero45 : tzero Try.prog 45 = some (Go.Abs.AV.agg [Go.Abs.AV.map none, Go.Abs.AV.int Go.IntKind.i64 0, Go.Abs.AV.int Go.IntKind.i64 0]) := by kernel_rfl
@[simp] theorem tsz46 : tsz Try.prog 46 = some 1 := by kernel_rfl
@[simp] theorem tbytes46 : tbytes Try.prog 46 = some 8 := by kernel_rfl
@[simp] theorem tagg46 : tagg Try.prog 46 = some false := by kernel_rfl
@[simp] theorem tzero46 : tzero Try.prog 46 = some (Go.Abs.AV.ptr none) := by kernel_rfl
@[simp] theorem isPtrT46 : isPtrT Try.prog 46 = true := by kernel_rfl
@[simp] theorem tsz49 : tsz Try.prog 49 = some 1 := by kernel_rfl
@[simp] theorem tbytes49 : tbytes Try.prog 49 = some 24 := by kernel_rfl
@[simp] theorem tagg49 : tagg Try.prog 49 = some false := by kernel_rfl
@[simp] theorem tzero49 : tzero Try.prog 49 = some (Go.Abs.AV.slice none 0 0 none) := by kernel_rfl
@[simp] theorem isStrT49 : isStrT Try.prog 49 = false := by kernel_rfl
@[simp] theorem bytesT49 : bytesT Try.prog 49 = false := by kernel_rfl
@[simp] theorem elemT49 : elemT Try.prog 49 = some 46 := by kernel_rfl
@[simp] theorem isSliceT49 : isSliceT Try.prog 49 = true := by kernel_rfl
@[simp] theorem elemS49 : elemS Try.prog 49 = some 1 := by kernel_rfl
@[simp] theorem elemF49 : elemF Try.prog 49 = some (46, 8, 1, [Go.Abs.AV.ptr none]) := by kernel_rfl
@[simp] theorem tsz50 : tsz Try.prog 50 = some 9 := by kernel_rfl
@[simp] theorem tbytes50 : tbytes Try.prog 50 = some 80 := by kernel_rfl
@[simp] theorem tagg50 : tagg Try.prog 50 = some true := by kernel_rfl
@[simp] theorem tzero50 : tzero Try.prog 50 = some (Go.Abs.AV.agg [Go.Abs.AV.ptr none, Go.Abs.AV.int Go.IntKind.i64 0, Go.Abs.AV.int Go.IntKind.i64 0, Go.Abs.AV.ptr none, Go.Abs.AV.int Go.IntKind.i64 0, Go.Abs.AV.int Go.IntKind.i64 0, Go.Abs.AV.slice none 0 0 none, Go.Abs.AV.bool false, Go.Abs.AV.bool false]) := by kernel_rfl
@[simp] theorem tsz51 : tsz Try.prog 51 = some 9 := by kernel_rfl
@[simp] theorem tbytes51 : tbytes Try.prog 51 = some 80 := by kernel_rfl
@[simp] theorem tagg51 : tagg Try.prog 51 = some true := by kernel_rfl
@[simp] theorem tzero51 : tzero Try.prog 51 = some (Go.Abs.AV.agg [Go.Abs.AV.ptr none, Go.Abs.AV.int Go.IntKind.i64 0, Go.Abs.AV.int Go.IntKind.i64 0, Go.Abs.AV.ptr none, Go.Abs.AV.int Go.IntKind.i64 0, Go.Abs.AV.int Go.IntKind.i64 0, Go.Abs.AV.slice none 0 0 none, Go.Abs.AV.bool false, Go.Abs.AV.bool false]) := by kernel_rfl
@[simp] theorem tsz55 : tsz Try.prog 55 = some 1 := by kernel_rfl
@[simp] theorem tbytes55 : tbytes Try.prog 55 = some 4 := by kernel_rfl
@[simp] theorem tagg55 : tagg Try.prog 55 = some false := by kernel_rfl
@[simp] theorem tzero55 : tzero Try.prog 55 = some (Go.Abs.AV.int Go.IntKind.u32 0) := by kernel_rfl
@[simp] theorem intT55 : intT Try.prog 55 = some .u32 := by kernel_rfl
@[simp] theorem tsz56 : tsz Try.prog 56 = some 1 := by kernel_rfl
@[simp] theorem tbytes56 : tbytes Try.prog 56 = some 4 := by kernel_rfl
@[simp] theorem tagg56 : tagg Try.prog 56 = some false := by kernel_rfl
@[simp] theorem tzero56 : tzero Try.prog 56 = some (Go.Abs.AV.int Go.IntKind.u32 0) := by kernel_rfl
@[simp] theorem intT56 : intT Try.prog 56 = some .u32 := by kernel_rfl
@[simp] theorem tsz57 : tsz Try.prog 57 = some 1 := by kernel_rfl
@[simp] theorem tbytes57 : tbytes Try.prog 57 = some 24 := by kernel_rfl
@[simp] theorem tagg57 : tagg Try.prog 57 = some false := by kernel_rfl
@[simp] theorem tzero57 : tzero Try.prog 57 = some (Go.Abs.AV.slice none 0 0 none) := by kernel_rfl
@[simp] theorem isStrT57 : isStrT Try.prog 57 = false := by kernel_rfl
@[simp] theorem bytesT57 : bytesT Try.prog 57 = false := by kernel_rfl
@[simp] theorem elemT57 : elemT Try.prog 57 = some 3 := by kernel_rfl
@[simp] theorem isSliceT57 : isSliceT Try.prog 57 = true := by kernel_rfl
@[simp] theorem elemS57 : elemS Try.prog 57 = some 1 := by kernel_rfl
@[simp] theorem elemF57 : elemF Try.prog 57 = some (3, 8, 1, [Go.Abs.AV.int Go.IntKind.i64 0]) := by kernel_rfl
@[simp] theorem tsz58 : tsz Try.prog 58 = some 2 := by kernel_rfl
@[simp] theorem tbytes58 : tbytes Try.prog 58 = some 32 := by kernel_rfl
@[simp] theorem tagg58 : tagg Try.prog 58 = some true := by kernel_rfl
@[simp] theorem tzero58 : tzero Try.prog 58 = some (Go.Abs.AV.agg [Go.Abs.AV.bool false, Go.Abs.AV.slice none 0 0 none]) := by kernel_rfl
@[simp] theorem tsz59 : tsz Try.prog 59 = some 2 := by kernel_rfl
@[simp] theorem tbytes59 : tbytes Try.prog 59 = some 32 := by kernel_rfl
@[simp] theorem tagg59 : tagg Try.prog 59 = some true := by kernel_rfl
@[simp] theorem tzero59 : tzero Try.prog 59 = some (Go.Abs.AV.agg [Go.Abs.AV.bool false, Go.Abs.AV.slice none 0 0 none]) := by kernel_rfl
@[simp] theorem tsz60 : tsz Try.prog 60 = some 5 := by kernel_rfl
@[simp] theorem tbytes60 : tbytes Try.prog 60 = some 56 := by kernel_rfl
@[simp] theorem tagg60 : tagg Try.prog 60 = some true := by kernel_rfl
@[simp] theorem tzero60 : tzero Try.prog 60 = some (Go.Abs.AV.agg [Go.Abs.AV.int Go.IntKind.i64 0, Go.Abs.AV.int Go.IntKind.u32 0, Go.Abs.AV.bool false, Go.Abs.AV.slice none 0 0 none, Go.Abs.AV.int Go.IntKind.i64 0]) := by kernel_rfl
@[simp] theorem tsz61 : tsz Try.prog 61 = some 5 := by kernel_rfl
@[simp] theorem tbytes61 : tbytes Try.prog 61 = some 56 := by kernel_rfl
@[simp] theorem tagg61 : tagg Try.prog 61 = some true := by kernel_rfl
@[simp] theorem tzero61 : tzero Try.prog 61 = some (Go.Abs.AV.agg [Go.Abs.AV.int Go.IntKind.i64 0, Go.Abs.AV.int Go.IntKind.u32 0, Go.Abs.AV.bool false, Go.Abs.AV.slice none 0 0 none, Go.Abs.AV.int Go.IntKind.i64 0]) := by kernel_rfl
@[simp] theorem tsz66 : tsz Try.prog 66 = some 1 := by kernel_rfl
@[simp] theorem tbytes66 : tbytes Try.prog 66 = some 24 := by kernel_rfl
@[simp] theorem tagg66 : tagg Try.prog 66 = some false := by kernel_rfl
@[simp] theorem tzero66 : tzero Try.prog 66 = some (Go.Abs.AV.slice none 0 0 none) := by kernel_rfl
@[simp] theorem isStrT66 : isStrT Try.prog 66 = false := by kernel_rfl
@[simp] theorem bytesT66 : bytesT Try.prog 66 = false := by kernel_rfl
@[simp] theorem elemT66 : elemT Try.prog 66 = some 71 := by kernel_rfl
@[simp] theorem isSliceT66 : isSliceT Try.prog 66 = true := by kernel_rfl
@[simp] theorem elemS66 : elemS Try.prog 66 = some 2 := by kernel_rfl
@[simp] theorem elemF66 : elemF Try.prog 66 = some (71, 48, 2, [Go.Abs.AV.slice none 0 0 none, Go.Abs.AV.slice none 0 0 none]) := by kernel_rfl
@[simp] theorem tsz67 : tsz Try.prog 67 = some 3 := by kernel_rfl
@[simp] theorem tbytes67 : tbytes Try.prog 67 = some 40 := by kernel_rfl
@[simp] theorem tagg67 : tagg Try.prog 67 = some true := by kernel_rfl
@[simp] theorem tzero67 : tzero Try.prog 67 = some (Go.Abs.AV.agg [Go.Abs.AV.slice none 0 0 none, Go.Abs.AV.int Go.IntKind.i64 0, Go.Abs.AV.int Go.IntKind.i64 0]) := by kernel_rfl
@[simp] theorem tsz68 : tsz Try.prog 68 = some 3 := by kernel_rfl
@[simp] theorem tbytes68 : tbytes Try.prog 68 = some 40 := by kernel_rfl
@[simp] theorem tagg68 : tagg Try.prog 68 = some true := by kernel_rfl
@[simp] theorem tzero68 : tzero Try.prog 68 = some (Go.Abs.AV.agg [Go.Abs.AV.slice none 0 0 none, Go.Abs.AV.int Go.IntKind.i64 0, Go.Abs.AV.int Go.IntKind.i64 0]) := by kernel_rfl
@[simp] theorem tsz70 : tsz Try.prog 70 = some 2 := by kernel_rfl
@[simp] theorem tbytes70 : tbytes Try.prog 70 = some 48 := by kernel_rfl
@[simp] theorem tagg70 : tagg Try.prog 70 = some true := by kernel_rfl
@[simp] theorem tzero70 : tzero Try.prog 70 = some (Go.Abs.AV.agg [Go.Abs.AV.slice none 0 0 none, Go.Abs.AV.slice none 0 0 none]) := by kernel_rfl
@[simp] theorem tsz71 : tsz Try.prog 71 = some 2 := by kernel_rfl
@[simp] theorem tbytes71 : tbytes Try.prog 71 = some 48 := by kernel_rfl
@[simp] theorem tagg71 : tagg Try.prog 71 = some true := by kernel_rfl
@[simp] theorem tzero71 : tzero Try.prog 71 = some (Go.Abs.AV.agg [Go.Abs.AV.slice none 0 0 none, Go.Abs.AV.slice none 0 0 none]) := by kernel_rfl
@[simp] theorem tsz72 : tsz Try.prog 72 = some 1 := by kernel_rfl
@[simp] theorem tbytes72 : tbytes Try.prog 72 = some 8 := by kernel_rfl
@[simp] theorem tagg72 : tagg Try.prog 72 = some false := by kernel_rfl
@[simp] theorem tzero72 : tzero Try.prog 72 = some (Go.Abs.AV.ptr none) := by kernel_rfl
@[simp] theorem isPtrT72 : isPtrT Try.prog 72 = true := by kernel_rfl
@[simp] theorem tsz75 : tsz Try.prog 75 = some 1 := by kernel_rfl
@[simp] theorem tbytes75 : tbytes Try.prog 75 = some 24 := by kernel_rfl
@[simp] theorem tagg75 : tagg Try.prog 75 = some false := by kernel_rfl
@[simp] theorem tzero75 : tzero Try.prog 75 = some (Go.Abs.AV.slice none 0 0 none) := by kernel_rfl
@[simp] theorem isStrT75 : isStrT Try.prog 75 = false := by kernel_rfl
@[simp] theorem bytesT75 : bytesT Try.prog 75 = false := by kernel_rfl
@[simp] theorem elemT75 : elemT Try.prog 75 = some 27 := by kernel_rfl
@[simp] theorem isSliceT75 : isSliceT Try.prog 75 = true := by kernel_rfl
@[simp] theorem elemS75 : elemS Try.prog 75 = some 1 := by kernel_rfl
@[simp] theorem elemF75 : elemF Try.prog 75 = some (27, 24, 1, [Go.Abs.AV.slice none 0 0 none]) := by kernel_rfl
@[simp] theorem tsz78 : tsz Try.prog 78 = some 4 := by kernel_rfl
@[simp] theorem tbytes78 : tbytes Try.prog 78 = some 40 := by kernel_rfl
@[simp] theorem tagg78 : tagg Try.prog 78 = some true := by kernel_rfl
@[simp] theorem tzero78 : tzero Try.prog 78 = some (Go.Abs.AV.agg [Go.Abs.AV.ptr none, Go.Abs.AV.ptr none, Go.Abs.AV.ptr none, Go.Abs.AV.str []]) := by kernel_rfl
@[simp] theorem tsz79 : tsz Try.prog 79 = some 4 := by kernel_rfl
@[simp] theorem tbytes79 : tbytes Try.prog 79 = some 40 := by kernel_rfl
@[simp] theorem tagg79 : tagg Try.prog 79 = some true := by kernel_rfl
@[simp] theorem tzero79 : tzero Try.prog 79 = some (Go.Abs.AV.agg [Go.Abs.AV.ptr none, Go.Abs.AV.ptr none, Go.Abs.AV.ptr none, Go.Abs.AV.str []]) := by kernel_rfl
@[simp] theorem tsz80 : tsz Try.prog 80 = some 0 := by kernel_rfl
@[simp] theorem tbytes80 : tbytes Try.prog 80 = some 0 := by kernel_rfl
@[simp] theorem tagg80 : tagg Try.prog 80 = some true := by kernel_rfl
@[simp] theorem tzero80 : tzero Try.prog 80 = some (Go.Abs.AV.agg []) := by kernel_rfl
@[simp] theorem isArrT80 : isArrT Try.prog 80 = some 0 := by kernel_rfl
@[simp] theorem elemA80 : elemA Try.prog 80 = some (0, 1) := by kernel_rfl
@[simp] theorem tsz81 : tsz Try.prog 81 = some 0 := by kernel_rfl
@[simp] theorem tbytes81 : tbytes Try.prog 81 = some 0 := by kernel_rfl
@[simp] theorem tagg81 : tagg Try.prog 81 = some true := by kernel_rfl
@[simp] theorem tzero81 : tzero Try.prog 81 = some (Go.Abs.AV.agg []) := by kernel_rfl
@[simp] theorem tsz82 : tsz Try.prog 82 = some 0 := by kernel_rfl
@[simp] theorem tbytes82 : tbytes Try.prog 82 = some 0 := by kernel_rfl
@[simp] theorem tagg82 : tagg Try.prog 82 = some true := by kernel_rfl
@[simp] theorem tzero82 : tzero Try.prog 82 = some (Go.Abs.AV.agg []) := by kernel_rfl
@[simp] theorem tsz83 : tsz Try.prog 83 = some 1 := by kernel_rfl
@[simp] theorem tbytes83 : tbytes Try.prog 83 = some 1 := by kernel_rfl
@[simp] theorem tagg83 : tagg Try.prog 83 = some false := by kernel_rfl
@[simp] theorem tzero83 : tzero Try.prog 83 = some (Go.Abs.AV.int Go.IntKind.u8 0) := by kernel_rfl
@[simp] theorem intT83 : intT Try.prog 83 = some .u8 := by kernel_rfl
@[simp] theorem tsz84 : tsz Try.prog 84 = some 1 := by kernel_rfl
@[simp] theorem tbytes84 : tbytes Try.prog 84 = some 1 := by kernel_rfl
@[simp] theorem tagg84 : tagg Try.prog 84 = some false := by kernel_rfl
@[simp] theorem tzero84 : tzero Try.prog 84 = some (Go.Abs.AV.int Go.IntKind.u8 0) := by kernel_rfl
@[simp] theorem intT84 : intT Try.prog 84 = some .u8 := by kernel_rfl
@[simp] theorem tsz86 : tsz Try.prog 86 = some 1 := by kernel_rfl
@[simp] theorem tbytes86 : tbytes Try.prog 86 = some 8 := by kernel_rfl
@[simp] theorem tagg86 : tagg Try.prog 86 = some false := by kernel_rfl
@[simp] theorem tzero86 : tzero Try.prog 86 = some (Go.Abs.AV.ptr none) := by kernel_rfl
@[simp] theorem isPtrT86 : isPtrT Try.prog 86 = true := by kernel_rfl
@[simp] theorem tsz87 : tsz Try.prog 87 = some 1 := by kernel_rfl
@[simp] theorem tbytes87 : tbytes Try.prog 87 = some 4 := by kernel_rfl
@[simp] theorem tagg87 : tagg Try.prog 87 = some false := by kernel_rfl
@[simp] theorem tzero87 : tzero Try.prog 87 = some (Go.Abs.AV.int Go.IntKind.i32 0) := by kernel_rfl
@[simp] theorem intT87 : intT Try.prog 87 = some .i32 := by kernel_rfl
@[simp] theorem tsz88 : tsz Try.prog 88 = some 1 := by kernel_rfl
@[simp] theorem tbytes88 : tbytes Try.prog 88 = some 4 := by kernel_rfl
@[simp] theorem tagg88 : tagg Try.prog 88 = some false := by kernel_rfl
@[simp] theorem tzero88 : tzero Try.prog 88 = some (Go.Abs.AV.int Go.IntKind.i32 0) := by kernel_rfl
@[simp] theorem intT88 : intT Try.prog 88 = some .i32 := by kernel_rfl
@[simp] theorem tsz89 : tsz Try.prog 89 = some 11 := by kernel_rfl
@[simp] theorem tbytes89 : tbytes Try.prog 89 = some 48 := by kernel_rfl
@[simp] theorem tagg89 : tagg Try.prog 89 = some true := by kernel_rfl
@[simp] theorem tzero89 : tzero Try.prog 89 = some (Go.Abs.AV.agg [Go.Abs.AV.int Go.IntKind.u64 0, Go.Abs.AV.int Go.IntKind.u64 0, Go.Abs.AV.int Go.IntKind.u32 0, Go.Abs.AV.int Go.IntKind.u8 0, Go.Abs.AV.int Go.IntKind.u8 0, Go.Abs.AV.int Go.IntKind.u8 0, Go.Abs.AV.int Go.IntKind.u8 0, Go.Abs.AV.nilFunc, Go.Abs.AV.ptr none, Go.Abs.AV.int Go.IntKind.i32 0, Go.Abs.AV.int Go.IntKind.i32 0]) := by kernel_rfl
@[simp] theorem tsz90 : tsz Try.prog 90 = some 11 := by kernel_rfl
@[simp] theorem tbytes90 : tbytes Try.prog 90 = some 48 := by kernel_rfl
@[simp] theorem tagg90 : tagg Try.prog 90 = some true := by kernel_rfl
@[simp] theorem tzero90 : tzero Try.prog 90 = some (Go.Abs.AV.agg [Go.Abs.AV.int Go.IntKind.u64 0, Go.Abs.AV.int Go.IntKind.u64 0, Go.Abs.AV.int Go.IntKind.u32 0, Go.Abs.AV.int Go.IntKind.u8 0, Go.Abs.AV.int Go.IntKind.u8 0, Go.Abs.AV.int Go.IntKind.u8 0, Go.Abs.AV.int Go.IntKind.u8 0, Go.Abs.AV.nilFunc, Go.Abs.AV.ptr none, Go.Abs.AV.int Go.IntKind.i32 0, Go.Abs.AV.int Go.IntKind.i32 0]) := by kernel_rfl
@[simp] theorem tsz91 : tsz Try.prog 91 = some 1 := by kernel_rfl
@[simp] theorem tbytes91 : tbytes Try.prog 91 = some 8 := by kernel_rfl
@[simp] theorem tagg91 : tagg Try.prog 91 = some false := by kernel_rfl
@[simp] theorem tzero91 : tzero Try.prog 91 = some (Go.Abs.AV.ptr none) := by kernel_rfl

end Go.Abs
