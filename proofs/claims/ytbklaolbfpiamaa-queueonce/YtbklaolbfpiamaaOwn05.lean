/- Texts on this program, joined. -/
import Derived.Test.YtbklaolbfpiamaaKit03
import Derived.Test.YtbklaolbfpiamaaProg
import Derived.KernelRfl

/- The sizes, zero values and kinds of the types of this seat's program, for the walks. -/
namespace Go.Abs
open Go.Proofs
set_option maxRecDepth 100000

@[simp] theorem tsz2 : tsz Try.prog 2 = some 1 := by kernel_rfl
@[simp] theorem tbytes2 : tbytes Try.prog 2 = some 8 := by kernel_rfl
@[simp] theorem tagg2 : tagg Try.prog 2 = some false := by kernel_rfl
@[simp] theorem tzero2 : tzero Try.prog 2 = some (Go.Abs.AV.int Go.IntKind.i64 0) := by kernel_rfl
@[simp] theorem intT2 : intT Try.prog 2 = some .i64 := by kernel_rfl
@[simp] theorem tsz3 : tsz Try.prog 3 = some 1 := by kernel_rfl
@[simp] theorem tbytes3 : tbytes Try.prog 3 = some 8 := by kernel_rfl
@[simp] theorem tagg3 : tagg Try.prog 3 = some false := by kernel_rfl
@[simp] theorem tzero3 : tzero Try.prog 3 = some (Go.Abs.AV.int Go.IntKind.i64 0) := by kernel_rfl
@[simp] theorem intT3 : intT Try.prog 3 = some .i64 := by kernel_rfl
@[simp] theorem tsz4 : tsz Try.prog 4 = some 1 := by kernel_rfl
@[simp] theorem tbytes4 : tbytes Try.prog 4 = some 1 := by kernel_rfl
@[simp] theorem tagg4 : tagg Try.prog 4 = some false := by kernel_rfl
@[simp] theorem tzero4 : tzero Try.prog 4 = some (Go.Abs.AV.bool false) := by kernel_rfl
@[simp] theorem isBoolT4 : isBoolT Try.prog 4 = true := by kernel_rfl
@[simp] theorem tsz5 : tsz Try.prog 5 = some 1 := by kernel_rfl
@[simp] theorem tbytes5 : tbytes Try.prog 5 = some 1 := by kernel_rfl
@[simp] theorem tagg5 : tagg Try.prog 5 = some false := by kernel_rfl
@[simp] theorem tzero5 : tzero Try.prog 5 = some (Go.Abs.AV.int Go.IntKind.u8 0) := by kernel_rfl
@[simp] theorem intT5 : intT Try.prog 5 = some .u8 := by kernel_rfl
@[simp] theorem tsz6 : tsz Try.prog 6 = some 1 := by kernel_rfl
@[simp] theorem tbytes6 : tbytes Try.prog 6 = some 1 := by kernel_rfl
@[simp] theorem tagg6 : tagg Try.prog 6 = some false := by kernel_rfl
@[simp] theorem tzero6 : tzero Try.prog 6 = some (Go.Abs.AV.int Go.IntKind.u8 0) := by kernel_rfl
@[simp] theorem intT6 : intT Try.prog 6 = some .u8 := by kernel_rfl
@[simp] theorem tsz7 : tsz Try.prog 7 = some 4 := by kernel_rfl
@[simp] theorem tbytes7 : tbytes Try.prog 7 = some 24 := by kernel_rfl
@[simp] theorem tagg7 : tagg Try.prog 7 = some true := by kernel_rfl
@[simp] theorem tzero7 : tzero Try.prog 7 = some (Go.Abs.AV.agg [Go.Abs.AV.int Go.IntKind.i64 0, Go.Abs.AV.int Go.IntKind.i64 0, Go.Abs.AV.bool false, Go.Abs.AV.int Go.IntKind.u8 0]) := by kernel_rfl
@[simp] theorem tsz8 : tsz Try.prog 8 = some 4 := by kernel_rfl
@[simp] theorem tbytes8 : tbytes Try.prog 8 = some 24 := by kernel_rfl
@[simp] theorem tagg8 : tagg Try.prog 8 = some true := by kernel_rfl
@[simp] theorem tzero8 : tzero Try.prog 8 = some (Go.Abs.AV.agg [Go.Abs.AV.int Go.IntKind.i64 0, Go.Abs.AV.int Go.IntKind.i64 0, Go.Abs.AV.bool false, Go.Abs.AV.int Go.IntKind.u8 0]) := by kernel_rfl
@[simp] theorem tsz9 : tsz Try.prog 9 = some 1 := by kernel_rfl
@[simp] theorem tbytes9 : tbytes Try.prog 9 = some 16 := by kernel_rfl
@[simp] theorem tagg9 : tagg Try.prog 9 = some false := by kernel_rfl
@[simp] theorem tzero9 : tzero Try.prog 9 = some (Go.Abs.AV.str []) := by kernel_rfl
@[simp] theorem isStrT9 : isStrT Try.prog 9 = true := by kernel_rfl
@[simp] theorem bytesT9 : bytesT Try.prog 9 = false := by kernel_rfl
@[simp] theorem tsz10 : tsz Try.prog 10 = some 1 := by kernel_rfl
@[simp] theorem tbytes10 : tbytes Try.prog 10 = some 16 := by kernel_rfl
@[simp] theorem tagg10 : tagg Try.prog 10 = some false := by kernel_rfl
@[simp] theorem tzero10 : tzero Try.prog 10 = some (Go.Abs.AV.str []) := by kernel_rfl
@[simp] theorem isStrT10 : isStrT Try.prog 10 = true := by kernel_rfl
@[simp] theorem bytesT10 : bytesT Try.prog 10 = false := by kernel_rfl
@[simp] theorem tsz11 : tsz Try.prog 11 = some 1 := by kernel_rfl
@[simp] theorem tbytes11 : tbytes Try.prog 11 = some 16 := by kernel_rfl
@[simp] theorem tagg11 : tagg Try.prog 11 = some false := by kernel_rfl
@[simp] theorem tzero11 : tzero Try.prog 11 = some (Go.Abs.AV.str []) := by kernel_rfl
@[simp] theorem isStrT11 : isStrT Try.prog 11 = true := by kernel_rfl
@[simp] theorem bytesT11 : bytesT Try.prog 11 = false := by kernel_rfl
@[simp] theorem tsz12 : tsz Try.prog 12 = some 1 := by kernel_rfl
@[simp] theorem tbytes12 : tbytes Try.prog 12 = some 8 := by kernel_rfl
@[simp] theorem tagg12 : tagg Try.prog 12 = some false := by kernel_rfl
@[simp] theorem tzero12 : tzero Try.prog 12 = some (Go.Abs.AV.int Go.IntKind.u64 0) := by kernel_rfl
@[simp] theorem intT12 : intT Try.prog 12 = some .u64 := by kernel_rfl
@[simp] theorem tsz13 : tsz Try.prog 13 = some 2 := by kernel_rfl
@[simp] theorem tbytes13 : tbytes Try.prog 13 = some 24 := by kernel_rfl
@[simp] theorem tagg13 : tagg Try.prog 13 = some true := by kernel_rfl
@[simp] theorem tzero13 : tzero Try.prog 13 = some (Go.Abs.AV.agg [Go.Abs.AV.str [], Go.Abs.AV.int Go.IntKind.u64 0]) := by kernel_rfl
@[simp] theorem tsz14 : tsz Try.prog 14 = some 2 := by kernel_rfl
@[simp] theorem tbytes14 : tbytes Try.prog 14 = some 24 := by kernel_rfl
@[simp] theorem tagg14 : tagg Try.prog 14 = some true := by kernel_rfl
@[simp] theorem tzero14 : tzero Try.prog 14 = some (Go.Abs.AV.agg [Go.Abs.AV.str [], Go.Abs.AV.int Go.IntKind.u64 0]) := by kernel_rfl
@[simp] theorem tsz15 : tsz Try.prog 15 = some 1 := by kernel_rfl
@[simp] theorem tbytes15 : tbytes Try.prog 15 = some 8 := by kernel_rfl
@[simp] theorem tagg15 : tagg Try.prog 15 = some false := by kernel_rfl
@[simp] theorem tzero15 : tzero Try.prog 15 = some (Go.Abs.AV.ptr none) := by kernel_rfl
@[simp] theorem isPtrT15 : isPtrT Try.prog 15 = true := by kernel_rfl
@[simp] theorem tsz16 : tsz Try.prog 16 = some 1 := by kernel_rfl
@[simp] theorem tbytes16 : tbytes Try.prog 16 = some 8 := by kernel_rfl
@[simp] theorem tagg16 : tagg Try.prog 16 = some false := by kernel_rfl
@[simp] theorem tzero16 : tzero Try.prog 16 = some (Go.Abs.AV.ptr none) := by kernel_rfl
@[simp] theorem isPtrT16 : isPtrT Try.prog 16 = true := by kernel_rfl
@[simp] theorem tsz17 : tsz Try.prog 17 = some 1 := by kernel_rfl
@[simp] theorem tbytes17 : tbytes Try.prog 17 = some 8 := by kernel_rfl
@[simp] theorem tagg17 : tagg Try.prog 17 = some false := by kernel_rfl
@[simp] theorem tzero17 : tzero Try.prog 17 = some (Go.Abs.AV.ptr none) := by kernel_rfl
@[simp] theorem isPtrT17 : isPtrT Try.prog 17 = true := by kernel_rfl
@[simp] theorem tsz18 : tsz Try.prog 18 = some 1 := by kernel_rfl
@[simp] theorem tbytes18 : tbytes Try.prog 18 = some 8 := by kernel_rfl
@[simp] theorem tagg18 : tagg Try.prog 18 = some true := by kernel_rfl
@[simp] theorem tzero18 : tzero Try.prog 18 = some (Go.Abs.AV.agg [Go.Abs.AV.ptr none]) := by kernel_rfl
@[simp] theorem tsz19 : tsz Try.prog 19 = some 1 := by kernel_rfl
@[simp] theorem tbytes19 : tbytes Try.prog 19 = some 8 := by kernel_rfl
@[simp] theorem tagg19 : tagg Try.prog 19 = some true := by kernel_rfl
@[simp] theorem tzero19 : tzero Try.prog 19 = some (Go.Abs.AV.agg [Go.Abs.AV.ptr none]) := by kernel_rfl
@[simp] theorem tsz21 : tsz Try.prog 21 = some 1 := by kernel_rfl
@[simp] theorem tbytes21 : tbytes Try.prog 21 = some 4 := by kernel_rfl
@[simp] theorem tagg21 : tagg Try.prog 21 = some false := by kernel_rfl
@[simp] theorem tzero21 : tzero Try.prog 21 = some (Go.Abs.AV.int Go.IntKind.i32 0) := by kernel_rfl
@[simp] theorem intT21 : intT Try.prog 21 = some .i32 := by kernel_rfl
@[simp] theorem tsz22 : tsz Try.prog 22 = some 1 := by kernel_rfl
@[simp] theorem tbytes22 : tbytes Try.prog 22 = some 24 := by kernel_rfl
@[simp] theorem tagg22 : tagg Try.prog 22 = some false := by kernel_rfl
@[simp] theorem tzero22 : tzero Try.prog 22 = some (Go.Abs.AV.slice none 0 0 none) := by kernel_rfl
@[simp] theorem isStrT22 : isStrT Try.prog 22 = false := by kernel_rfl
@[simp] theorem bytesT22 : bytesT Try.prog 22 = false := by kernel_rfl
@[simp] theorem elemT22 : elemT Try.prog 22 = some 27 := by kernel_rfl
@[simp] theorem isSliceT22 : isSliceT Try.prog 22 = true := by kernel_rfl
@[simp] theorem elemS22 : elemS Try.prog 22 = some 4 := by kernel_rfl
@[simp] theorem elemF22 : elemF Try.prog 22 = some (27, 48, 4, [Go.Abs.AV.int Go.IntKind.i64 0, Go.Abs.AV.slice none 0 0 none, Go.Abs.AV.int Go.IntKind.i64 0, Go.Abs.AV.int Go.IntKind.i64 0]) := by kernel_rfl
@[simp] theorem tsz23 : tsz Try.prog 23 = some 1 := by kernel_rfl
@[simp] theorem tbytes23 : tbytes Try.prog 23 = some 8 := by kernel_rfl
@[simp] theorem tagg23 : tagg Try.prog 23 = some false := by kernel_rfl
@[simp] theorem tzero23 : tzero Try.prog 23 = some (Go.Abs.AV.ptr none) := by kernel_rfl
@[simp] theorem isPtrT23 : isPtrT Try.prog 23 = true := by kernel_rfl
@[simp] theorem tsz25 : tsz Try.prog 25 = some 1 := by kernel_rfl
@[simp] theorem tbytes25 : tbytes Try.prog 25 = some 24 := by kernel_rfl
@[simp] theorem tagg25 : tagg Try.prog 25 = some false := by kernel_rfl
@[simp] theorem tzero25 : tzero Try.prog 25 = some (Go.Abs.AV.slice none 0 0 none) := by kernel_rfl
@[simp] theorem isStrT25 : isStrT Try.prog 25 = false := by kernel_rfl
@[simp] theorem bytesT25 : bytesT Try.prog 25 = true := by kernel_rfl
@[simp] theorem elemT25 : elemT Try.prog 25 = some 5 := by kernel_rfl
@[simp] theorem isSliceT25 : isSliceT Try.prog 25 = true := by kernel_rfl
@[simp] theorem elemS25 : elemS Try.prog 25 = some 1 := by kernel_rfl
@[simp] theorem elemF25 : elemF Try.prog 25 = some (5, 1, 1, [Go.Abs.AV.int Go.IntKind.u8 0]) := by kernel_rfl
@[simp] theorem tsz26 : tsz Try.prog 26 = some 4 := by kernel_rfl
@[simp] theorem tbytes26 : tbytes Try.prog 26 = some 48 := by kernel_rfl
@[simp] theorem tagg26 : tagg Try.prog 26 = some true := by kernel_rfl
@[simp] theorem tzero26 : tzero Try.prog 26 = some (Go.Abs.AV.agg [Go.Abs.AV.int Go.IntKind.i64 0, Go.Abs.AV.slice none 0 0 none, Go.Abs.AV.int Go.IntKind.i64 0, Go.Abs.AV.int Go.IntKind.i64 0]) := by kernel_rfl
@[simp] theorem tsz27 : tsz Try.prog 27 = some 4 := by kernel_rfl
@[simp] theorem tbytes27 : tbytes Try.prog 27 = some 48 := by kernel_rfl
@[simp] theorem tagg27 : tagg Try.prog 27 = some true := by kernel_rfl
@[simp] theorem tzero27 : tzero Try.prog 27 = some (Go.Abs.AV.agg [Go.Abs.AV.int Go.IntKind.i64 0, Go.Abs.AV.slice none 0 0 none, Go.Abs.AV.int Go.IntKind.i64 0, Go.Abs.AV.int Go.IntKind.i64 0]) := by kernel_rfl
@[simp] theorem tsz28 : tsz Try.prog 28 = some 1 := by kernel_rfl
@[simp] theorem tbytes28 : tbytes Try.prog 28 = some 24 := by kernel_rfl
@[simp] theorem tagg28 : tagg Try.prog 28 = some false := by kernel_rfl
@[simp] theorem tzero28 : tzero Try.prog 28 = some (Go.Abs.AV.slice none 0 0 none) := by kernel_rfl
@[simp] theorem isStrT28 : isStrT Try.prog 28 = false := by kernel_rfl
@[simp] theorem bytesT28 : bytesT Try.prog 28 = false := by kernel_rfl
@[simp] theorem elemT28 : elemT Try.prog 28 = some 60 := by kernel_rfl
@[simp] theorem isSliceT28 : isSliceT Try.prog 28 = true := by kernel_rfl
@[simp] theorem elemS28 : elemS Try.prog 28 = some 5 := by kernel_rfl
@[simp] theorem elemF28 : elemF Try.prog 28 = some (60, 56, 5, [Go.Abs.AV.int Go.IntKind.i64 0, Go.Abs.AV.int Go.IntKind.u32 0, Go.Abs.AV.bool false, Go.Abs.AV.slice none 0 0 none, Go.Abs.AV.int Go.IntKind.i64 0]) := by kernel_rfl
@[simp] theorem tsz31 : tsz Try.prog 31 = some 1 := by kernel_rfl
@[simp] theorem tbytes31 : tbytes Try.prog 31 = some 8 := by kernel_rfl
@[simp] theorem tagg31 : tagg Try.prog 31 = some false := by kernel_rfl
@[simp] theorem tzero31 : tzero Try.prog 31 = some (Go.Abs.AV.int Go.IntKind.i64 0) := by kernel_rfl
@[simp] theorem intT31 : intT Try.prog 31 = some .i64 := by kernel_rfl
@[simp] theorem tsz35 : tsz Try.prog 35 = some 1 := by kernel_rfl
@[simp] theorem tbytes35 : tbytes Try.prog 35 = some 24 := by kernel_rfl
@[simp] theorem tagg35 : tagg Try.prog 35 = some false := by kernel_rfl
@[simp] theorem tzero35 : tzero Try.prog 35 = some (Go.Abs.AV.slice none 0 0 none) := by kernel_rfl
@[simp] theorem isStrT35 : isStrT Try.prog 35 = false := by kernel_rfl
@[simp] theorem bytesT35 : bytesT Try.prog 35 = false := by kernel_rfl
@[simp] theorem elemT35 : elemT Try.prog 35 = some 38 := by kernel_rfl
@[simp] theorem isSliceT35 : isSliceT Try.prog 35 = true := by kernel_rfl
@[simp] theorem elemS35 : elemS Try.prog 35 = some 2 := by kernel_rfl
@[simp] theorem elemF35 : elemF Try.prog 35 = some (38, 48, 2, [Go.Abs.AV.slice none 0 0 none, Go.Abs.AV.slice none 0 0 none]) := by kernel_rfl
@[simp] theorem tsz37 : tsz Try.prog 37 = some 2 := by kernel_rfl
@[simp] theorem tbytes37 : tbytes Try.prog 37 = some 48 := by kernel_rfl
@[simp] theorem tagg37 : tagg Try.prog 37 = some true := by kernel_rfl
@[simp] theorem tzero37 : tzero Try.prog 37 = some (Go.Abs.AV.agg [Go.Abs.AV.slice none 0 0 none, Go.Abs.AV.slice none 0 0 none]) := by kernel_rfl
@[simp] theorem tsz38 : tsz Try.prog 38 = some 2 := by kernel_rfl
@[simp] theorem tbytes38 : tbytes Try.prog 38 = some 48 := by kernel_rfl
@[simp] theorem tagg38 : tagg Try.prog 38 = some true := by kernel_rfl
@[simp] theorem tzero38 : tzero Try.prog 38 = some (Go.Abs.AV.agg [Go.Abs.AV.slice none 0 0 none, Go.Abs.AV.slice none 0 0 none]) := by kernel_rfl
@[simp] theorem tsz50 : tsz Try.prog 50 = some 3 := by kernel_rfl
@[simp] theorem tbytes50 : tbytes Try.prog 50 = some 40 := by kernel_rfl
@[simp] theorem tagg50 : tagg Try.prog 50 = some true := by kernel_rfl
@[simp] theorem tzero50 : tzero Try.prog 50 = some (Go.Abs.AV.agg [Go.Abs.AV.slice none 0 0 none, Go.Abs.AV.int Go.IntKind.i64 0, Go.Abs.AV.int Go.IntKind.i64 0]) := by kernel_rfl
@[simp] theorem tsz51 : tsz Try.prog 51 = some 3 := by kernel_rfl
@[simp] theorem tbytes51 : tbytes Try.prog 51 = some 40 := by kernel_rfl
@[simp] theorem tagg51 : tagg Try.prog 51 = some true := by kernel_rfl
@[simp] theorem tzero51 : tzero Try.prog 51 = some (Go.Abs.AV.agg [Go.Abs.AV.slice none 0 0 none, Go.Abs.AV.int Go.IntKind.i64 0, Go.Abs.AV.int Go.IntKind.i64 0]) := by kernel_rfl
@[simp] theorem tsz54 : tsz Try.prog 54 = some 1 := by kernel_rfl
@[simp] theorem tbytes54 : tbytes Try.prog 54 = some 4 := by kernel_rfl
@[simp] theorem tagg54 : tagg Try.prog 54 = some false := by kernel_rfl
@[simp] theorem tzero54 : tzero Try.prog 54 = some (Go.Abs.AV.int Go.IntKind.u32 0) := by kernel_rfl
@[simp] theorem intT54 : intT Try.prog 54 = some .u32 := by kernel_rfl
@[simp] theorem tsz55 : tsz Try.prog 55 = some 1 := by kernel_rfl
@[simp] theorem tbytes55 : tbytes Try.prog 55 = some 4 := by kernel_rfl
@[simp] theorem tagg55 : tagg Try.prog 55 = some false := by kernel_rfl
@[simp] theorem tzero55 : tzero Try.prog 55 = some (Go.Abs.AV.int Go.IntKind.u32 0) := by kernel_rfl
@[simp] theorem intT55 : intT Try.prog 55 = some .u32 := by kernel_rfl
@[simp] theorem tsz56 : tsz Try.prog 56 = some 1 := by kernel_rfl
@[simp] theorem tbytes56 : tbytes Try.prog 56 = some 24 := by kernel_rfl
@[simp] theorem tagg56 : tagg Try.prog 56 = some false := by kernel_rfl
@[simp] theorem tzero56 : tzero Try.prog 56 = some (Go.Abs.AV.slice none 0 0 none) := by kernel_rfl
@[simp] theorem isStrT56 : isStrT Try.prog 56 = false := by kernel_rfl
@[simp] theorem bytesT56 : bytesT Try.prog 56 = false := by kernel_rfl
@[simp] theorem elemT56 : elemT Try.prog 56 = some 3 := by kernel_rfl
@[simp] theorem isSliceT56 : isSliceT Try.prog 56 = true := by kernel_rfl
@[simp] theorem elemS56 : elemS Try.prog 56 = some 1 := by kernel_rfl
@[simp] theorem elemF56 : elemF Try.prog 56 = some (3, 8, 1, [Go.Abs.AV.int Go.IntKind.i64 0]) := by kernel_rfl
@[simp] theorem tsz57 : tsz Try.prog 57 = some 2 := by kernel_rfl
@[simp] theorem tbytes57 : tbytes Try.prog 57 = some 32 := by kernel_rfl
@[simp] theorem tagg57 : tagg Try.prog 57 = some true := by kernel_rfl
@[simp] theorem tzero57 : tzero Try.prog 57 = some (Go.Abs.AV.agg [Go.Abs.AV.bool false, Go.Abs.AV.slice none 0 0 none]) := by kernel_rfl
@[simp] theorem tsz58 : tsz Try.prog 58 = some 2 := by kernel_rfl
@[simp] theorem tbytes58 : tbytes Try.prog 58 = some 32 := by kernel_rfl
@[simp] theorem tagg58 : tagg Try.prog 58 = some true := by kernel_rfl
@[simp] theorem tzero58 : tzero Try.prog 58 = some (Go.Abs.AV.agg [Go.Abs.AV.bool false, Go.Abs.AV.slice none 0 0 none]) := by kernel_rfl
@[simp] theorem tsz59 : tsz Try.prog 59 = some 5 := by kernel_rfl
@[simp] theorem tbytes59 : tbytes Try.prog 59 = some 56 := by kernel_rfl
@[simp] theorem tagg59 : tagg Try.prog 59 = some true := by kernel_rfl
@[simp] theorem tzero59 : tzero Try.prog 59 = some (Go.Abs.AV.agg [Go.Abs.AV.int Go.IntKind.i64 0, Go.Abs.AV.int Go.IntKind.u32 0, Go.Abs.AV.bool false, Go.Abs.AV.slice none 0 0 none, Go.Abs.AV.int Go.IntKind.i64 0]) := by kernel_rfl
@[simp] theorem tsz60 : tsz Try.prog 60 = some 5 := by kernel_rfl
@[simp] theorem tbytes60 : tbytes Try.prog 60 = some 56 := by kernel_rfl
@[simp] theorem tagg60 : tagg Try.prog 60 = some true := by kernel_rfl
@[simp] theorem tzero60 : tzero Try.prog 60 = some (Go.Abs.AV.agg [Go.Abs.AV.int Go.IntKind.i64 0, Go.Abs.AV.int Go.IntKind.u32 0, Go.Abs.AV.bool false, Go.Abs.AV.slice none 0 0 none, Go.Abs.AV.int Go.IntKind.i64 0]) := by kernel_rfl
@[simp] theorem tsz61 : tsz Try.prog 61 = some 1 := by kernel_rfl
@[simp] theorem tbytes61 : tbytes Try.prog 61 = some 8 := by kernel_rfl
@[simp] theorem tagg61 : tagg Try.prog 61 = some false := by kernel_rfl
@[simp] theorem tzero61 : tzero Try.prog 61 = some (Go.Abs.AV.ptr none) := by kernel_rfl
@[simp] theorem isPtrT61 : isPtrT Try.prog 61 = true := by kernel_rfl
@[simp] theorem tsz65 : tsz Try.prog 65 = some 2 := by kernel_rfl
@[simp] theorem tbytes65 : tbytes Try.prog 65 = some 48 := by kernel_rfl
@[simp] theorem tagg65 : tagg Try.prog 65 = some true := by kernel_rfl
@[simp] theorem tzero65 : tzero Try.prog 65 = some (Go.Abs.AV.agg [Go.Abs.AV.slice none 0 0 none, Go.Abs.AV.slice none 0 0 none]) := by kernel_rfl
@[simp] theorem isArrT65 : isArrT Try.prog 65 = some 2 := by kernel_rfl
@[simp] theorem elemA65 : elemA Try.prog 65 = some (2, 1) := by kernel_rfl
@[simp] theorem tsz70 : tsz Try.prog 70 = some 1 := by kernel_rfl
@[simp] theorem tbytes70 : tbytes Try.prog 70 = some 24 := by kernel_rfl
@[simp] theorem tagg70 : tagg Try.prog 70 = some false := by kernel_rfl
@[simp] theorem tzero70 : tzero Try.prog 70 = some (Go.Abs.AV.slice none 0 0 none) := by kernel_rfl
@[simp] theorem isStrT70 : isStrT Try.prog 70 = false := by kernel_rfl
@[simp] theorem bytesT70 : bytesT Try.prog 70 = false := by kernel_rfl
@[simp] theorem elemT70 : elemT Try.prog 70 = some 25 := by kernel_rfl
@[simp] theorem isSliceT70 : isSliceT Try.prog 70 = true := by kernel_rfl
@[simp] theorem elemS70 : elemS Try.prog 70 = some 1 := by kernel_rfl
@[simp] theorem elemF70 : elemF Try.prog 70 = some (25, 24, 1, [Go.Abs.AV.slice none 0 0 none]) := by kernel_rfl
@[simp] theorem tsz74 : tsz Try.prog 74 = some 4 := by kernel_rfl
@[simp] theorem tbytes74 : tbytes Try.prog 74 = some 40 := by kernel_rfl
@[simp] theorem tagg74 : tagg Try.prog 74 = some true := by kernel_rfl
@[simp] theorem tzero74 : tzero Try.prog 74 = some (Go.Abs.AV.agg [Go.Abs.AV.ptr none, Go.Abs.AV.ptr none, Go.Abs.AV.ptr none, Go.Abs.AV.str []]) := by kernel_rfl
@[simp] theorem tsz75 : tsz Try.prog 75 = some 4 := by kernel_rfl
@[simp] theorem tbytes75 : tbytes Try.prog 75 = some 40 := by kernel_rfl
@[simp] theorem tagg75 : tagg Try.prog 75 = some true := by kernel_rfl
@[simp] theorem tzero75 : tzero Try.prog 75 = some (Go.Abs.AV.agg [Go.Abs.AV.ptr none, Go.Abs.AV.ptr none, Go.Abs.AV.ptr none, Go.Abs.AV.str []]) := by kernel_rfl
@[simp] theorem tsz76 : tsz Try.prog 76 = some 0 := by kernel_rfl
@[simp] theorem tbytes76 : tbytes Try.prog 76 = some 0 := by kernel_rfl
@[simp] theorem tagg76 : tagg Try.prog 76 = some true := by kernel_rfl
@[simp] theorem tzero76 : tzero Try.prog 76 = some (Go.Abs.AV.agg []) := by kernel_rfl
@[simp] theorem isArrT76 : isArrT Try.prog 76 = some 0 := by kernel_rfl
@[simp] theorem elemA76 : elemA Try.prog 76 = some (0, 1) := by kernel_rfl
@[simp] theorem tsz77 : tsz Try.prog 77 = some 0 := by kernel_rfl
@[simp] theorem tbytes77 : tbytes Try.prog 77 = some 0 := by kernel_rfl
@[simp] theorem tagg77 : tagg Try.prog 77 = some true := by kernel_rfl
@[simp] theorem tzero77 : tzero Try.prog 77 = some (Go.Abs.AV.agg []) := by kernel_rfl
@[simp] theorem tsz78 : tsz Try.prog 78 = some 0 := by kernel_rfl
@[simp] theorem tbytes78 : tbytes Try.prog 78 = some 0 := by kernel_rfl
@[simp] theorem tagg78 : tagg Try.prog 78 = some true := by kernel_rfl
@[simp] theorem tzero78 : tzero Try.prog 78 = some (Go.Abs.AV.agg []) := by kernel_rfl
@[simp] theorem tsz79 : tsz Try.prog 79 = some 1 := by kernel_rfl
@[simp] theorem tbytes79 : tbytes Try.prog 79 = some 1 := by kernel_rfl
@[simp] theorem tagg79 : tagg Try.prog 79 = some false := by kernel_rfl
@[simp] theorem tzero79 : tzero Try.prog 79 = some (Go.Abs.AV.int Go.IntKind.u8 0) := by kernel_rfl
@[simp] theorem intT79 : intT Try.prog 79 = some .u8 := by kernel_rfl
@[simp] theorem tsz80 : tsz Try.prog 80 = some 1 := by kernel_rfl
@[simp] theorem tbytes80 : tbytes Try.prog 80 = some 1 := by kernel_rfl
@[simp] theorem tagg80 : tagg Try.prog 80 = some false := by kernel_rfl
@[simp] theorem tzero80 : tzero Try.prog 80 = some (Go.Abs.AV.int Go.IntKind.u8 0) := by kernel_rfl
@[simp] theorem intT80 : intT Try.prog 80 = some .u8 := by kernel_rfl
@[simp] theorem tsz82 : tsz Try.prog 82 = some 1 := by kernel_rfl
@[simp] theorem tbytes82 : tbytes Try.prog 82 = some 8 := by kernel_rfl
@[simp] theorem tagg82 : tagg Try.prog 82 = some false := by kernel_rfl
@[simp] theorem tzero82 : tzero Try.prog 82 = some (Go.Abs.AV.ptr none) := by kernel_rfl
@[simp] theorem isPtrT82 : isPtrT Try.prog 82 = true := by kernel_rfl
@[simp] theorem tsz83 : tsz Try.prog 83 = some 1 := by kernel_rfl
@[simp] theorem tbytes83 : tbytes Try.prog 83 = some 4 := by kernel_rfl
@[simp] theorem tagg83 : tagg Try.prog 83 = some false := by kernel_rfl
@[simp] theorem tzero83 : tzero Try.prog 83 = some (Go.Abs.AV.int Go.IntKind.i32 0) := by kernel_rfl
@[simp] theorem intT83 : intT Try.prog 83 = some .i32 := by kernel_rfl
@[simp] theorem tsz84 : tsz Try.prog 84 = some 1 := by kernel_rfl
@[simp] theorem tbytes84 : tbytes Try.prog 84 = some 4 := by kernel_rfl
@[simp] theorem tagg84 : tagg Try.prog 84 = some false := by kernel_rfl
@[simp] theorem tzero84 : tzero Try.prog 84 = some (Go.Abs.AV.int Go.IntKind.i32 0) := by kernel_rfl
@[simp] theorem intT84 : intT Try.prog 84 = some .i32 := by kernel_rfl
@[simp] theorem tsz85 : tsz Try.prog 85 = some 11 := by kernel_rfl
@[simp] theorem tbytes85 : tbytes Try.prog 85 = some 48 := by kernel_rfl
@[simp] theorem tagg85 : tagg Try.prog 85 = some true := by kernel_rfl
@[simp] theorem tzero85 : tzero Try.prog 85 = some (Go.Abs.AV.agg [Go.Abs.AV.int Go.IntKind.u64 0, Go.Abs.AV.int Go.IntKind.u64 0, Go.Abs.AV.int Go.IntKind.u32 0, Go.Abs.AV.int Go.IntKind.u8 0, Go.Abs.AV.int Go.IntKind.u8 0, Go.Abs.AV.int Go.IntKind.u8 0, Go.Abs.AV.int Go.IntKind.u8 0, Go.Abs.AV.nilFunc, Go.Abs.AV.ptr none, Go.Abs.AV.int Go.IntKind.i32 0, Go.Abs.AV.int Go.IntKind.i32 0]) := by kernel_rfl
@[simp] theorem tsz86 : tsz Try.prog 86 = some 11 := by kernel_rfl
@[simp] theorem tbytes86 : tbytes Try.prog 86 = some 48 := by kernel_rfl
@[simp] theorem tagg86 : tagg Try.prog 86 = some true := by kernel_rfl
@[simp] theorem tzero86 : tzero Try.prog 86 = some (Go.Abs.AV.agg [Go.Abs.AV.int Go.IntKind.u64 0, Go.Abs.AV.int Go.IntKind.u64 0, Go.Abs.AV.int Go.IntKind.u32 0, Go.Abs.AV.int Go.IntKind.u8 0, Go.Abs.AV.int Go.IntKind.u8 0, Go.Abs.AV.int Go.IntKind.u8 0, Go.Abs.AV.int Go.IntKind.u8 0, Go.Abs.AV.nilFunc, Go.Abs.AV.ptr none, Go.Abs.AV.int Go.IntKind.i32 0, Go.Abs.AV.int Go.IntKind.i32 0]) := by kernel_rfl
@[simp] theorem tsz87 : tsz Try.prog 87 = some 1 := by kernel_rfl
@[simp] theorem tbytes87 : tbytes Try.prog 87 = some 8 := by kernel_rfl
@[simp] theorem tagg87 : tagg Try.prog 87 = some false := by kernel_rfl
@[simp] theorem tzero87 : tzero Try.prog 87 = some (Go.Abs.AV.ptr none) := by kernel_rfl

end Go.Abs
