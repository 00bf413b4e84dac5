/- Texts on this program, joined. -/
import Derived.Test.YtcpghbdhcpdffaaKit03
import Derived.Test.YtcpghbdhcpdffaaProg
import Derived.KernelRfl

/- The sizes, zero values and kinds of the types of this seat's program, for the walks. -/
namespace Go.Abs
open Go.Proofs
set_option maxRecDepth 100000

@[simp] theorem tsz2 : tsz Try.prog 2 = some 1 := by kernel_rfl
@[simp] theorem tbytes2 : tbytes Try.prog 2 = some 8 := by kernel_rfl
@[simp] theorem tagg2 : tagg Try.prog 2 = some false := by kernel_rfl
@[simp] theorem tzero2 : tzero Try.prog 2 = some (Go.Abs.AV.int Go.IntKind.i64 0) := by kernel_rfl
@[simp] theorem intT2 : intT Try.prog 2 = some .i64 := by kernel_rfl
@[simp] theorem tsz3 : tsz Try.prog 3 = some 1 := by kernel_rfl
@[simp] theorem tbytes3 : tbytes Try.prog 3 = some 8 := by kernel_rfl
@[simp] theorem tagg3 : tagg Try.prog 3 = some false := by kernel_rfl
@[simp] theorem tzero3 : tzero Try.prog 3 = some (Go.Abs.AV.int Go.IntKind.i64 0) := by kernel_rfl
@[simp] theorem intT3 : intT Try.prog 3 = some .i64 := by kernel_rfl
@[simp] theorem tsz4 : tsz Try.prog 4 = some 1 := by kernel_rfl
@[simp] theorem tbytes4 : tbytes Try.prog 4 = some 1 := by kernel_rfl
@[simp] theorem tagg4 : tagg Try.prog 4 = some false := by kernel_rfl
@[simp] theorem tzero4 : tzero Try.prog 4 = some (Go.Abs.AV.bool false) := by kernel_rfl
@[simp] theorem isBoolT4 : isBoolT Try.prog 4 = true := by kernel_rfl
@[simp] theorem tsz5 : tsz Try.prog 5 = some 1 := by kernel_rfl
@[simp] theorem tbytes5 : tbytes Try.prog 5 = some 1 := by kernel_rfl
@[simp] theorem tagg5 : tagg Try.prog 5 = some false := by kernel_rfl
@[simp] theorem tzero5 : tzero Try.prog 5 = some (Go.Abs.AV.int Go.IntKind.u8 0) := by kernel_rfl
@[simp] theorem intT5 : intT Try.prog 5 = some .u8 := by kernel_rfl
@[simp] theorem tsz6 : tsz Try.prog 6 = some 1 := by kernel_rfl
@[simp] theorem tbytes6 : tbytes Try.prog 6 = some 1 := by kernel_rfl
@[simp] theorem tagg6 : tagg Try.prog 6 = some false := by kernel_rfl
@[simp] theorem tzero6 : tzero Try.prog 6 = some (Go.Abs.AV.int Go.IntKind.u8 0) := by kernel_rfl
@[simp] theorem intT6 : intT Try.prog 6 = some .u8 := by kernel_rfl
@[simp] theorem tsz7 : tsz Try.prog 7 = some 4 := by kernel_rfl
@[simp] theorem tbytes7 : tbytes Try.prog 7 = some 24 := by kernel_rfl
@[simp] theorem tagg7 : tagg Try.prog 7 = some true := by kernel_rfl
@[simp] theorem tzero7 : tzero Try.prog 7 = some (Go.Abs.AV.agg [Go.Abs.AV.int Go.IntKind.i64 0, Go.Abs.AV.int Go.IntKind.i64 0, Go.Abs.AV.bool false, Go.Abs.AV.int Go.IntKind.u8 0]) := by kernel_rfl
@[simp] theorem tsz8 : tsz Try.prog 8 = some 4 := by kernel_rfl
@[simp] theorem tbytes8 : tbytes Try.prog 8 = some 24 := by kernel_rfl
@[simp] theorem tagg8 : tagg Try.prog 8 = some true := by kernel_rfl
@[simp] theorem tzero8 : tzero Try.prog 8 = some (Go.Abs.AV.agg [Go.Abs.AV.int Go.IntKind.i64 0, Go.Abs.AV.int Go.IntKind.i64 0, Go.Abs.AV.bool false, Go.Abs.AV.int Go.IntKind.u8 0]) := by kernel_rfl
@[simp] theorem tsz9 : tsz Try.prog 9 = some 1 := by kernel_rfl
@[simp] theorem tbytes9 : tbytes Try.prog 9 = some 16 := by kernel_rfl
@[simp] theorem tagg9 : tagg Try.prog 9 = some false := by kernel_rfl
@[simp] theorem tzero9 : tzero Try.prog 9 = some (Go.Abs.AV.str []) := by kernel_rfl
@[simp] theorem isStrT9 : isStrT Try.prog 9 = true := by kernel_rfl
@[simp] theorem bytesT9 : bytesT Try.prog 9 = false := by kernel_rfl
@[simp] theorem tsz10 : tsz Try.prog 10 = some 1 := by kernel_rfl
@[simp] theorem tbytes10 : tbytes Try.prog 10 = some 16 := by kernel_rfl
@[simp] theorem tagg10 : tagg Try.prog 10 = some false := by kernel_rfl
@[simp] theorem tzero10 : tzero Try.prog 10 = some (Go.Abs.AV.str []) := by kernel_rfl
@[simp] theorem isStrT10 : isStrT Try.prog 10 = true := by kernel_rfl
@[simp] theorem bytesT10 : bytesT Try.prog 10 = false := by kernel_rfl
@[simp] theorem tsz11 : tsz Try.prog 11 = some 1 := by kernel_rfl
@[simp] theorem tbytes11 : tbytes Try.prog 11 = some 16 := by kernel_rfl
@[simp] theorem tagg11 : tagg Try.prog 11 = some false := by kernel_rfl
@[simp] theorem tzero11 : tzero Try.prog 11 = some (Go.Abs.AV.str []) := by kernel_rfl
@[simp] theorem isStrT11 : isStrT Try.prog 11 = true := by kernel_rfl
@[simp] theorem bytesT11 : bytesT Try.prog 11 = false := by kernel_rfl
@[simp] theorem tsz12 : tsz Try.prog 12 = some 1 := by kernel_rfl
@[simp] theorem tbytes12 : tbytes Try.prog 12 = some 8 := by kernel_rfl
@[simp] theorem tagg12 : tagg Try.prog 12 = some false := by kernel_rfl
@[simp] theorem tzero12 : tzero Try.prog 12 = some (Go.Abs.AV.int Go.IntKind.u64 0) := by kernel_rfl
@[simp] theorem intT12 : intT Try.prog 12 = some .u64 := by kernel_rfl
@[simp] theorem tsz13 : tsz Try.prog 13 = some 2 := by kernel_rfl
@[simp] theorem tbytes13 : tbytes Try.prog 13 = some 24 := by kernel_rfl
@[simp] theorem tagg13 : tagg Try.prog 13 = some true := by kernel_rfl
@[simp] theorem tzero13 : tzero Try.prog 13 = some (Go.Abs.AV.agg [Go.Abs.AV.str [], Go.Abs.AV.int Go.IntKind.u64 0]) := by kernel_rfl
@[simp] theorem tsz14 : tsz Try.prog 14 = some 2 := by kernel_rfl
@[simp] theorem tbytes14 : tbytes Try.prog 14 = some 24 := by kernel_rfl
@[simp] theorem tagg14 : tagg Try.prog 14 = some true := by kernel_rfl
@[simp] theorem tzero14 : tzero Try.prog 14 = some (Go.Abs.AV.agg [Go.Abs.AV.str [], Go.Abs.AV.int Go.IntKind.u64 0]) := by kernel_rfl
@[simp] theorem tsz15 : tsz Try.prog 15 = some 1 := by kernel_rfl
@[simp] theorem tbytes15 : tbytes Try.prog 15 = some 8 := by kernel_rfl
@[simp] theorem tagg15 : tagg Try.prog 15 = some false := by kernel_rfl
@[simp] theorem tzero15 : tzero Try.prog 15 = some (Go.Abs.AV.ptr none) := by kernel_rfl
@[simp] theorem isPtrT15 : isPtrT Try.prog 15 = true := by kernel_rfl
@[simp] theorem tsz16 : tsz Try.prog 16 = some 1 := by kernel_rfl
@[simp] theorem tbytes16 : tbytes Try.prog 16 = some 8 := by kernel_rfl
@[simp] theorem tagg16 : tagg Try.prog 16 = some false := by kernel_rfl
@[simp] theorem tzero16 : tzero Try.prog 16 = some (Go.Abs.AV.ptr none) := by kernel_rfl
@[simp] theorem isPtrT16 : isPtrT Try.prog 16 = true := by kernel_rfl
@[simp] theorem tsz17 : tsz Try.prog 17 = some 1 := by kernel_rfl
@[simp] theorem tbytes17 : tbytes Try.prog 17 = some 8 := by kernel_rfl
@[simp] theorem tagg17 : tagg Try.prog 17 = some false := by kernel_rfl
@[simp] theorem tzero17 : tzero Try.prog 17 = some (Go.Abs.AV.ptr none) := by kernel_rfl
@[simp] theorem isPtrT17 : isPtrT Try.prog 17 = true := by kernel_rfl
@[simp] theorem tsz18 : tsz Try.prog 18 = some 1 := by kernel_rfl
@[simp] theorem tbytes18 : tbytes Try.prog 18 = some 8 := by kernel_rfl
@[simp] theorem tagg18 : tagg Try.prog 18 = some true := by kernel_rfl
@[simp] theorem tzero18 : tzero Try.prog 18 = some (Go.Abs.AV.agg [Go.Abs.AV.ptr none]) := by kernel_rfl
@[simp] theorem tsz19 : tsz Try.prog 19 = some 1 := by kernel_rfl
@[simp] theorem tbytes19 : tbytes Try.prog 19 = some 8 := by kernel_rfl
@[simp] theorem tagg19 : tagg Try.prog 19 = some true := by kernel_rfl
@[simp] theorem tzero19 : tzero Try.prog 19 = some (Go.Abs.AV.agg [Go.Abs.AV.ptr none]) := by kernel_rfl
@[simp] theorem tsz21 : tsz Try.prog 21 = some 1 := by kernel_rfl
@[simp] theorem tbytes21 : tbytes Try.prog 21 = some 4 := by kernel_rfl
@[simp] theorem tagg21 : tagg Try.prog 21 = some false := by kernel_rfl
@[simp] theorem tzero21 : tzero Try.prog 21 = some (Go.Abs.AV.int Go.IntKind.i32 0) := by kernel_rfl
@[simp] theorem intT21 : intT Try.prog 21 = some .i32 := by kernel_rfl
@[simp] theorem tsz22 : tsz Try.prog 22 = some 1 := by kernel_rfl
@[simp] theorem tbytes22 : tbytes Try.prog 22 = some 24 := by kernel_rfl
@[simp] theorem tagg22 : tagg Try.prog 22 = some false := by kernel_rfl
@[simp] theorem tzero22 : tzero Try.prog 22 = some (Go.Abs.AV.slice none 0 0 none) := by kernel_rfl
@[simp] theorem isStrT22 : isStrT Try.prog 22 = false := by kernel_rfl
@[simp] theorem bytesT22 : bytesT Try.prog 22 = false := by kernel_rfl
@[simp] theorem elemT22 : elemT Try.prog 22 = some 29 := by kernel_rfl
@[simp] theorem isSliceT22 : isSliceT Try.prog 22 = true := by kernel_rfl
@[simp] theorem elemS22 : elemS Try.prog 22 = some 3 := by kernel_rfl
@[simp] theorem elemF22 : elemF Try.prog 22 = some (29, 24, 3, [Go.Abs.AV.int Go.IntKind.i64 0, Go.Abs.AV.int Go.IntKind.i64 0, Go.Abs.AV.int Go.IntKind.i64 0]) := by kernel_rfl
@[simp] theorem tsz23 : tsz Try.prog 23 = some 1 := by kernel_rfl
@[simp] theorem tbytes23 : tbytes Try.prog 23 = some 8 := by kernel_rfl
@[simp] theorem tagg23 : tagg Try.prog 23 = some false := by kernel_rfl
@[simp] theorem tzero23 : tzero Try.prog 23 = some (Go.Abs.AV.ptr none) := by kernel_rfl
@[simp] theorem isPtrT23 : isPtrT Try.prog 23 = true := by kernel_rfl
@[simp] theorem tsz26 : tsz Try.prog 26 = some 1 := by kernel_rfl
@[simp] theorem tbytes26 : tbytes Try.prog 26 = some 8 := by kernel_rfl
@[simp] theorem tagg26 : tagg Try.prog 26 = some false := by kernel_rfl
@[simp] theorem tzero26 : tzero Try.prog 26 = some (Go.Abs.AV.ptr none) := by kernel_rfl
@[simp] theorem isPtrT26 : isPtrT Try.prog 26 = true := by kernel_rfl
@[simp] theorem tsz28 : tsz Try.prog 28 = some 3 := by kernel_rfl
@[simp] theorem tbytes28 : tbytes Try.prog 28 = some 24 := by kernel_rfl
@[simp] theorem tagg28 : tagg Try.prog 28 = some true := by kernel_rfl
@[simp] theorem tzero28 : tzero Try.prog 28 = some (Go.Abs.AV.agg [Go.Abs.AV.int Go.IntKind.i64 0, Go.Abs.AV.int Go.IntKind.i64 0, Go.Abs.AV.int Go.IntKind.i64 0]) := by kernel_rfl
@[simp] theorem tsz29 : tsz Try.prog 29 = some 3 := by kernel_rfl
@[simp] theorem tbytes29 : tbytes Try.prog 29 = some 24 := by kernel_rfl
@[simp] theorem tagg29 : tagg Try.prog 29 = some true := by kernel_rfl
@[simp] theorem tzero29 : tzero Try.prog 29 = some (Go.Abs.AV.agg [Go.Abs.AV.int Go.IntKind.i64 0, Go.Abs.AV.int Go.IntKind.i64 0, Go.Abs.AV.int Go.IntKind.i64 0]) := by kernel_rfl
@[simp] theorem tsz30 : tsz Try.prog 30 = some 1 := by kernel_rfl
@[simp] theorem tbytes30 : tbytes Try.prog 30 = some 24 := by kernel_rfl
@[simp] theorem tagg30 : tagg Try.prog 30 = some false := by kernel_rfl
@[simp] theorem tzero30 : tzero Try.prog 30 = some (Go.Abs.AV.slice none 0 0 none) := by kernel_rfl
@[simp] theorem isStrT30 : isStrT Try.prog 30 = false := by kernel_rfl
@[simp] theorem bytesT30 : bytesT Try.prog 30 = false := by kernel_rfl
@[simp] theorem elemT30 : elemT Try.prog 30 = some 33 := by kernel_rfl
@[simp] theorem isSliceT30 : isSliceT Try.prog 30 = true := by kernel_rfl
@[simp] theorem elemS30 : elemS Try.prog 30 = some 7 := by kernel_rfl
@[simp] theorem elemF30 : elemF Try.prog 30 = some (33, 48, 7, [Go.Abs.AV.int Go.IntKind.i64 0, Go.Abs.AV.int Go.IntKind.i64 0, Go.Abs.AV.bool false, Go.Abs.AV.int Go.IntKind.i64 0, Go.Abs.AV.bool false, Go.Abs.AV.bool false, Go.Abs.AV.int Go.IntKind.i64 0]) := by kernel_rfl
@[simp] theorem tsz32 : tsz Try.prog 32 = some 7 := by kernel_rfl
@[simp] theorem tbytes32 : tbytes Try.prog 32 = some 48 := by kernel_rfl
@[simp] theorem tagg32 : tagg Try.prog 32 = some true := by kernel_rfl
@[simp] theorem tzero32 : tzero Try.prog 32 = some (Go.Abs.AV.agg [Go.Abs.AV.int Go.IntKind.i64 0, Go.Abs.AV.int Go.IntKind.i64 0, Go.Abs.AV.bool false, Go.Abs.AV.int Go.IntKind.i64 0, Go.Abs.AV.bool false, Go.Abs.AV.bool false, Go.Abs.AV.int Go.IntKind.i64 0]) := by kernel_rfl
@[simp] theorem tsz33 : tsz Try.prog 33 = some 7 := by kernel_rfl
@[simp] theorem tbytes33 : tbytes Try.prog 33 = some 48 := by kernel_rfl
@[simp] theorem tagg33 : tagg Try.prog 33 = some true := by kernel_rfl
@[simp] theorem tzero33 : tzero Try.prog 33 = some (Go.Abs.AV.agg [Go.Abs.AV.int Go.IntKind.i64 0, Go.Abs.AV.int Go.IntKind.i64 0, Go.Abs.AV.bool false, Go.Abs.AV.int Go.IntKind.i64 0, Go.Abs.AV.bool false, Go.Abs.AV.bool false, Go.Abs.AV.int Go.IntKind.i64 0]) := by kernel_rfl
@[simp] theorem tsz41 : tsz Try.prog 41 = some 1 := by kernel_rfl
@[simp] theorem tbytes41 : tbytes Try.prog 41 = some 8 := by kernel_rfl
@[simp] theorem tagg41 : tagg Try.prog 41 = some false := by kernel_rfl
@[simp] theorem tzero41 : tzero Try.prog 41 = some (Go.Abs.AV.int Go.IntKind.i64 0) := by kernel_rfl
@[simp] theorem intT41 : intT Try.prog 41 = some .i64 := by kernel_rfl
@[simp] theorem tsz51 : tsz Try.prog 51 = some 1 := by kernel_rfl
@[simp] theorem tbytes51 : tbytes Try.prog 51 = some 8 := by kernel_rfl
@[simp] theorem tagg51 : tagg Try.prog 51 = some false := by kernel_rfl
@[simp] theorem tzero51 : tzero Try.prog 51 = some (Go.Abs.AV.ptr none) := by kernel_rfl
@[simp] theorem isPtrT51 : isPtrT Try.prog 51 = true := by kernel_rfl
@[simp] theorem tsz52 : tsz Try.prog 52 = some 1 := by kernel_rfl
@[simp] theorem tbytes52 : tbytes Try.prog 52 = some 24 := by kernel_rfl
@[simp] theorem tagg52 : tagg Try.prog 52 = some false := by kernel_rfl
@[simp] theorem tzero52 : tzero Try.prog 52 = some (Go.Abs.AV.slice none 0 0 none) := by kernel_rfl
@[simp] theorem isStrT52 : isStrT Try.prog 52 = false := by kernel_rfl
@[simp] theorem bytesT52 : bytesT Try.prog 52 = false := by kernel_rfl
@[simp] theorem elemT52 : elemT Try.prog 52 = some 51 := by kernel_rfl
@[simp] theorem isSliceT52 : isSliceT Try.prog 52 = true := by kernel_rfl
@[simp] theorem elemS52 : elemS Try.prog 52 = some 1 := by kernel_rfl
@[simp] theorem elemF52 : elemF Try.prog 52 = some (51, 8, 1, [Go.Abs.AV.ptr none]) := by kernel_rfl
@[simp] theorem tsz53 : tsz Try.prog 53 = some 3 := by kernel_rfl
@[simp] theorem tbytes53 : tbytes Try.prog 53 = some 40 := by kernel_rfl
@[simp] theorem tagg53 : tagg Try.prog 53 = some true := by kernel_rfl
@[simp] theorem tzero53 : tzero Try.prog 53 = some (Go.Abs.AV.agg [Go.Abs.AV.slice none 0 0 none, Go.Abs.AV.int Go.IntKind.i64 0, Go.Abs.AV.int Go.IntKind.i64 0]) := by kernel_rfl
@[simp] theorem tsz54 : tsz Try.prog 54 = some 3 := by kernel_rfl
@[simp] theorem tbytes54 : tbytes Try.prog 54 = some 40 := by kernel_rfl
@[simp] theorem tagg54 : tagg Try.prog 54 = some true := by kernel_rfl
@[simp] theorem tzero54 : tzero Try.prog 54 = some (Go.Abs.AV.agg [Go.Abs.AV.slice none 0 0 none, Go.Abs.AV.int Go.IntKind.i64 0, Go.Abs.AV.int Go.IntKind.i64 0]) := by kernel_rfl
@[simp] theorem tsz55 : tsz Try.prog 55 = some 3 := by kernel_rfl
@[simp] theorem tbytes55 : tbytes Try.prog 55 = some 40 := by kernel_rfl
@[simp] theorem tagg55 : tagg Try.prog 55 = some true := by kernel_rfl
@[simp] theorem tzero55 : tzero Try.prog 55 = some (Go.Abs.AV.agg [Go.Abs.AV.slice none 0 0 none, Go.Abs.AV.int Go.IntKind.i64 0, Go.Abs.AV.int Go.IntKind.i64 0]) := by kernel_rfl
@[simp] theorem tsz56 : tsz Try.prog 56 = some 3 := by kernel_rfl
@[simp] theorem tbytes56 : tbytes Try.prog 56 = some 40 := by kernel_rfl
@[simp] theorem tagg56 : tagg Try.prog 56 = some true := by kernel_rfl
@[simp] theorem tzero56 : tzero Try.prog 56 = some (Go.Abs.AV.agg [Go.Abs.AV.slice none 0 0 none, Go.Abs.AV.int Go.IntKind.i64 0, Go.Abs.AV.int Go.IntKind.i64 0]) := by kernel_rfl
@[simp] theorem tsz64 : tsz Try.prog 64 = some 4 := by kernel_rfl
@[simp] theorem tbytes64 : tbytes Try.prog 64 = some 40 := by kernel_rfl
@[simp] theorem tagg64 : tagg Try.prog 64 = some true := by kernel_rfl
@[simp] theorem tzero64 : tzero Try.prog 64 = some (Go.Abs.AV.agg [Go.Abs.AV.ptr none, Go.Abs.AV.ptr none, Go.Abs.AV.ptr none, Go.Abs.AV.str []]) := by kernel_rfl
@[simp] theorem tsz65 : tsz Try.prog 65 = some 4 := by kernel_rfl
@[simp] theorem tbytes65 : tbytes Try.prog 65 = some 40 := by kernel_rfl
@[simp] theorem tagg65 : tagg Try.prog 65 = some true := by kernel_rfl
@[simp] theorem tzero65 : tzero Try.prog 65 = some (Go.Abs.AV.agg [Go.Abs.AV.ptr none, Go.Abs.AV.ptr none, Go.Abs.AV.ptr none, Go.Abs.AV.str []]) := by kernel_rfl
@[simp] theorem tsz66 : tsz Try.prog 66 = some 0 := by kernel_rfl
@[simp] theorem tbytes66 : tbytes Try.prog 66 = some 0 := by kernel_rfl
@[simp] theorem tagg66 : tagg Try.prog 66 = some true := by kernel_rfl
@[simp] theorem tzero66 : tzero Try.prog 66 = some (Go.Abs.AV.agg []) := by kernel_rfl
@[simp] theorem isArrT66 : isArrT Try.prog 66 = some 0 := by kernel_rfl
@[simp] theorem elemA66 : elemA Try.prog 66 = some (0, 1) := by kernel_rfl
@[simp] theorem tsz67 : tsz Try.prog 67 = some 0 := by kernel_rfl
@[simp] theorem tbytes67 : tbytes Try.prog 67 = some 0 := by kernel_rfl
@[simp] theorem tagg67 : tagg Try.prog 67 = some true := by kernel_rfl
@[simp] theorem tzero67 : tzero Try.prog 67 = some (Go.Abs.AV.agg []) := by kernel_rfl
@[simp] theorem tsz68 : tsz Try.prog 68 = some 0 := by kernel_rfl
@[simp] theorem tbytes68 : tbytes Try.prog 68 = some 0 := by kernel_rfl
@[simp] theorem tagg68 : tagg Try.prog 68 = some true := by kernel_rfl
@[simp] theorem tzero68 : tzero Try.prog 68 = some (Go.Abs.AV.agg []) := by kernel_rfl
@[simp] theorem tsz69 : tsz Try.prog 69 = some 1 := by kernel_rfl
@[simp] theorem tbytes69 : tbytes Try.prog 69 = some 4 := by kernel_rfl
@[simp] theorem tagg69 : tagg Try.prog 69 = some false := by kernel_rfl
@[simp] theorem tzero69 : tzero Try.prog 69 = some (Go.Abs.AV.int Go.IntKind.u32 0) := by kernel_rfl
@[simp] theorem intT69 : intT Try.prog 69 = some .u32 := by kernel_rfl
@[simp] theorem tsz70 : tsz Try.prog 70 = some 1 := by kernel_rfl
@[simp] theorem tbytes70 : tbytes Try.prog 70 = some 1 := by kernel_rfl
@[simp] theorem tagg70 : tagg Try.prog 70 = some false := by kernel_rfl
@[simp] theorem tzero70 : tzero Try.prog 70 = some (Go.Abs.AV.int Go.IntKind.u8 0) := by kernel_rfl
@[simp] theorem intT70 : intT Try.prog 70 = some .u8 := by kernel_rfl
@[simp] theorem tsz71 : tsz Try.prog 71 = some 1 := by kernel_rfl
@[simp] theorem tbytes71 : tbytes Try.prog 71 = some 1 := by kernel_rfl
@[simp] theorem tagg71 : tagg Try.prog 71 = some false := by kernel_rfl
@[simp] theorem tzero71 : tzero Try.prog 71 = some (Go.Abs.AV.int Go.IntKind.u8 0) := by kernel_rfl
@[simp] theorem intT71 : intT Try.prog 71 = some .u8 := by kernel_rfl
@[simp] theorem tsz73 : tsz Try.prog 73 = some 1 := by kernel_rfl
@[simp] theorem tbytes73 : tbytes Try.prog 73 = some 8 := by kernel_rfl
@[simp] theorem tagg73 : tagg Try.prog 73 = some false := by kernel_rfl
@[simp] theorem tzero73 : tzero Try.prog 73 = some (Go.Abs.AV.ptr none) := by kernel_rfl
@[simp] theorem isPtrT73 : isPtrT Try.prog 73 = true := by kernel_rfl
@[simp] theorem tsz74 : tsz Try.prog 74 = some 1 := by kernel_rfl
@[simp] theorem tbytes74 : tbytes Try.prog 74 = some 4 := by kernel_rfl
@[simp] theorem tagg74 : tagg Try.prog 74 = some false := by kernel_rfl
@[simp] theorem tzero74 : tzero Try.prog 74 = some (Go.Abs.AV.int Go.IntKind.i32 0) := by kernel_rfl
@[simp] theorem intT74 : intT Try.prog 74 = some .i32 := by kernel_rfl
@[simp] theorem tsz75 : tsz Try.prog 75 = some 1 := by kernel_rfl
@[simp] theorem tbytes75 : tbytes Try.prog 75 = some 4 := by kernel_rfl
@[simp] theorem tagg75 : tagg Try.prog 75 = some false := by kernel_rfl
@[simp] theorem tzero75 : tzero Try.prog 75 = some (Go.Abs.AV.int Go.IntKind.i32 0) := by kernel_rfl
@[simp] theorem intT75 : intT Try.prog 75 = some .i32 := by kernel_rfl
@[simp] theorem tsz76 : tsz Try.prog 76 = some 11 := by kernel_rfl
@[simp] theorem tbytes76 : tbytes Try.prog 76 = some 48 := by kernel_rfl
@[simp] theorem tagg76 : tagg Try.prog 76 = some true := by kernel_rfl
@[simp] theorem tzero76 : tzero Try.prog 76 = some (Go.Abs.AV.agg [Go.Abs.AV.int Go.IntKind.u64 0, Go.Abs.AV.int Go.IntKind.u64 0, Go.Abs.AV.int Go.IntKind.u32 0, Go.Abs.AV.int Go.IntKind.u8 0, Go.Abs.AV.int Go.IntKind.u8 0, Go.Abs.AV.int Go.IntKind.u8 0, Go.Abs.AV.int Go.IntKind.u8 0, Go.Abs.AV.nilFunc, Go.Abs.AV.ptr none, Go.Abs.AV.int Go.IntKind.i32 0, Go.Abs.AV.int Go.IntKind.i32 0]) := by kernel_rfl
@[simp] theorem tsz77 : tsz Try.prog 77 = some 11 := by kernel_rfl
@[simp] theorem tbytes77 : tbytes Try.prog 77 = some 48 := by kernel_rfl
@[simp] theorem tagg77 : tagg Try.prog 77 = some true := by kernel_rfl
@[simp] theorem tzero77 : tzero Try.prog 77 = some (Go.Abs.AV.agg [Go.Abs.AV.int Go.IntKind.u64 0, Go.Abs.AV.int Go.IntKind.u64 0, Go.Abs.AV.int Go.IntKind.u32 0, Go.Abs.AV.int Go.IntKind.u8 0, Go.Abs.AV.int Go.IntKind.u8 0, Go.Abs.AV.int Go.IntKind.u8 0, Go.Abs.AV.int Go.IntKind.u8 0, Go.Abs.AV.nilFunc, Go.Abs.AV.ptr none, Go.Abs.AV.int Go.IntKind.i32 0, Go.Abs.AV.int Go.IntKind.i32 0]) := by kernel_rfl
@[simp] theorem tsz78 : tsz Try.prog 78 = some 1 := by kernel_rfl
@[simp] theorem tbytes78 : tbytes Try.prog 78 = some 8 := by kernel_rfl
@[simp] theorem tagg78 : tagg Try.prog 78 = some false := by kernel_rfl
@[simp] theorem tzero78 : tzero Try.prog 78 = some (Go.Abs.AV.ptr none) := by kernel_rfl

end Go.Abs
