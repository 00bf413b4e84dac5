/- Texts on this program, joined. -/
import Derived.Test.YtjbccgpaaaoljaaDoorKit04
import Derived.Test.YtjbccgpaaaoljaaDoorProg
import Derived.KernelRfl

/- The sizes, zero values and kinds of the types of this seat's program, for the walks. -/
namespace Go.Abs
set_option linter.unusedVariables false
open Go.Proofs
set_option maxRecDepth 100000

@[simp] theorem tsz2 : tsz Tryd.prog 2 = some 1 := by kernel_rfl
@[simp] theorem tbytes2 : tbytes Tryd.prog 2 = some 8 := by kernel_rfl
@[simp] theorem tagg2 : tagg Tryd.prog 2 = some false := by kernel_rfl
@[simp] theorem tzero2 : tzero Tryd.prog 2 = some (Go.Abs.AV.int Go.IntKind.i64 0) := by kernel_rfl
@[simp] theorem intT2 : intT Tryd.prog 2 = some .i64 := by kernel_rfl
@[simp] theorem tsz3 : tsz Tryd.prog 3 = some 1 := by kernel_rfl
@[simp] theorem tbytes3 : tbytes Tryd.prog 3 = some 8 := by kernel_rfl
@[simp] theorem tagg3 : tagg Tryd.prog 3 = some false := by kernel_rfl
@[simp] theorem tzero3 : tzero Tryd.prog 3 = some (Go.Abs.AV.int Go.IntKind.i64 0) := by kernel_rfl
@[simp] theorem intT3 : intT Tryd.prog 3 = some .i64 := by kernel_rfl
@[simp] theorem tsz4 : tsz Tryd.prog 4 = some 1 := by kernel_rfl
@[simp] theorem tbytes4 : tbytes Tryd.prog 4 = some 1 := by kernel_rfl
@[simp] theorem tagg4 : tagg Tryd.prog 4 = some false := by kernel_rfl
@[simp] theorem tzero4 : tzero Tryd.prog 4 = some (Go.Abs.AV.bool false) := by kernel_rfl
@[simp] theorem isBoolT4 : isBoolT Tryd.prog 4 = true := by kernel_rfl
@[simp] theorem tsz5 : tsz Tryd.prog 5 = some 1 := by kernel_rfl
@[simp] theorem tbytes5 : tbytes Tryd.prog 5 = some 1 := by kernel_rfl
@[simp] theorem tagg5 : tagg Tryd.prog 5 = some false := by kernel_rfl
@[simp] theorem tzero5 : tzero Tryd.prog 5 = some (Go.Abs.AV.int Go.IntKind.u8 0) := by kernel_rfl
@[simp] theorem intT5 : intT Tryd.prog 5 = some .u8 := by kernel_rfl
@[simp] theorem tsz6 : tsz Tryd.prog 6 = some 1 := by kernel_rfl
@[simp] theorem tbytes6 : tbytes Tryd.prog 6 = some 1 := by kernel_rfl
@[simp] theorem tagg6 : tagg Tryd.prog 6 = some false := by kernel_rfl
@[simp] theorem tzero6 : tzero Tryd.prog 6 = some (Go.Abs.AV.int Go.IntKind.u8 0) := by kernel_rfl
@[simp] theorem intT6 : intT Tryd.prog 6 = some .u8 := by kernel_rfl
@[simp] theorem tsz7 : tsz Tryd.prog 7 = some 4 := by kernel_rfl
@[simp] theorem tbytes7 : tbytes Tryd.prog 7 = some 24 := by kernel_rfl
@[simp] theorem tagg7 : tagg Tryd.prog 7 = some true := by kernel_rfl
@[simp] theorem tzero7 : tzero Tryd.prog 7 = some (Go.Abs.AV.agg [Go.Abs.AV.int Go.IntKind.i64 0, Go.Abs.AV.int Go.IntKind.i64 0, Go.Abs.AV.bool false, Go.Abs.AV.int Go.IntKind.u8 0]) := by kernel_rfl
@[simp] theorem tsz8 : tsz Tryd.prog 8 = some 4 := by kernel_rfl
@[simp] theorem tbytes8 : tbytes Tryd.prog 8 = some 24 := by kernel_rfl
@[simp] theorem tagg8 : tagg Tryd.prog 8 = some true := by kernel_rfl
@[simp] theorem tzero8 : tzero Tryd.prog 8 = some (Go.Abs.AV.agg [Go.Abs.AV.int Go.IntKind.i64 0, Go.Abs.AV.int Go.IntKind.i64 0, Go.Abs.AV.bool false, Go.Abs.AV.int Go.IntKind.u8 0]) := by kernel_rfl
@[simp] theorem tsz9 : tsz Tryd.prog 9 = some 1 := by kernel_rfl
@[simp] theorem tbytes9 : tbytes Tryd.prog 9 = some 16 := by kernel_rfl
@[simp] theorem tagg9 : tagg Tryd.prog 9 = some false := by kernel_rfl
@[simp] theorem tzero9 : tzero Tryd.prog 9 = some (Go.Abs.AV.str []) := by kernel_rfl
@[simp] theorem isStrT9 : isStrT Tryd.prog 9 = true := by kernel_rfl
@[simp] theorem bytesT9 : bytesT Tryd.prog 9 = false := by kernel_rfl
@[simp] theorem tsz10 : tsz Tryd.prog 10 = some 1 := by kernel_rfl
@[simp] theorem tbytes10 : tbytes Tryd.prog 10 = some 16 := by kernel_rfl
@[simp] theorem tagg10 : tagg Tryd.prog 10 = some false := by kernel_rfl
@[simp] theorem tzero10 : tzero Tryd.prog 10 = some (Go.Abs.AV.str []) := by kernel_rfl
@[simp] theorem isStrT10 : isStrT Tryd.prog 10 = true := by kernel_rfl
@[simp] theorem bytesT10 : bytesT Tryd.prog 10 = false := by kernel_rfl
@[simp] theorem tsz11 : tsz Tryd.prog 11 = some 1 := by kernel_rfl
@[simp] theorem tbytes11 : tbytes Tryd.prog 11 = some 16 := by kernel_rfl
@[simp] theorem tagg11 : tagg Tryd.prog 11 = some false := by kernel_rfl
@[simp] theorem tzero11 : tzero Tryd.prog 11 = some (Go.Abs.AV.str []) := by kernel_rfl
@[simp] theorem isStrT11 : isStrT Tryd.prog 11 = true := by kernel_rfl
@[simp] theorem bytesT11 : bytesT Tryd.prog 11 = false := by kernel_rfl
@[simp] theorem tsz12 : tsz Tryd.prog 12 = some 1 := by kernel_rfl
@[simp] theorem tbytes12 : tbytes Tryd.prog 12 = some 8 := by kernel_rfl
@[simp] theorem tagg12 : tagg Tryd.prog 12 = some false := by kernel_rfl
@[simp] theorem tzero12 : tzero Tryd.prog 12 = some (Go.Abs.AV.int Go.IntKind.u64 0) := by kernel_rfl
@[simp] theorem intT12 : intT Tryd.prog 12 = some .u64 := by kernel_rfl
@[simp] theorem tsz13 : tsz Tryd.prog 13 = some 2 := by kernel_rfl
@[simp] theorem tbytes13 : tbytes Tryd.prog 13 = some 24 := by kernel_rfl
@[simp] theorem tagg13 : tagg Tryd.prog 13 = some true := by kernel_rfl
@[simp] theorem tzero13 : tzero Tryd.prog 13 = some (Go.Abs.AV.agg [Go.Abs.AV.str [], Go.Abs.AV.int Go.IntKind.u64 0]) := by kernel_rfl
@[simp] theorem tsz14 : tsz Tryd.prog 14 = some 2 := by kernel_rfl
@[simp] theorem tbytes14 : tbytes Tryd.prog 14 = some 24 := by kernel_rfl
@[simp] theorem tagg14 : tagg Tryd.prog 14 = some true := by kernel_rfl
@[simp] theorem tzero14 : tzero Tryd.prog 14 = some (Go.Abs.AV.agg [Go.Abs.AV.str [], Go.Abs.AV.int Go.IntKind.u64 0]) := by kernel_rfl
@[simp] theorem tsz15 : tsz Tryd.prog 15 = some 1 := by kernel_rfl
@[simp] theorem tbytes15 : tbytes Tryd.prog 15 = some 8 := by kernel_rfl
@[simp] theorem tagg15 : tagg Tryd.prog 15 = some false := by kernel_rfl
@[simp] theorem tzero15 : tzero Tryd.prog 15 = some (Go.Abs.AV.ptr none) := by kernel_rfl
@[simp] theorem isPtrT15 : isPtrT Tryd.prog 15 = true := by kernel_rfl
@[simp] theorem tsz16 : tsz Tryd.prog 16 = some 1 := by kernel_rfl
@[simp] theorem tbytes16 : tbytes Tryd.prog 16 = some 8 := by kernel_rfl
@[simp] theorem tagg16 : tagg Tryd.prog 16 = some false := by kernel_rfl
@[simp] theorem tzero16 : tzero Tryd.prog 16 = some (Go.Abs.AV.ptr none) := by kernel_rfl
@[simp] theorem isPtrT16 : isPtrT Tryd.prog 16 = true := by kernel_rfl
@[simp] theorem tsz17 : tsz Tryd.prog 17 = some 1 := by kernel_rfl
@[simp] theorem tbytes17 : tbytes Tryd.prog 17 = some 8 := by kernel_rfl
@[simp] theorem tagg17 : tagg Tryd.prog 17 = some false := by kernel_rfl
@[simp] theorem tzero17 : tzero Tryd.prog 17 = some (Go.Abs.AV.ptr none) := by kernel_rfl
@[simp] theorem isPtrT17 : isPtrT Tryd.prog 17 = true := by kernel_rfl
@[simp] theorem tsz18 : tsz Tryd.prog 18 = some 1 := by kernel_rfl
@[simp] theorem tbytes18 : tbytes Tryd.prog 18 = some 8 := by kernel_rfl
@[simp] theorem tagg18 : tagg Tryd.prog 18 = some true := by kernel_rfl
@[simp] theorem tzero18 : tzero Tryd.prog 18 = some (Go.Abs.AV.agg [Go.Abs.AV.ptr none]) := by kernel_rfl
@[simp] theorem tsz19 : tsz Tryd.prog 19 = some 1 := by kernel_rfl
@[simp] theorem tbytes19 : tbytes Tryd.prog 19 = some 8 := by kernel_rfl
@[simp] theorem tagg19 : tagg Tryd.prog 19 = some true := by kernel_rfl
@[simp] theorem tzero19 : tzero Tryd.prog 19 = some (Go.Abs.AV.agg [Go.Abs.AV.ptr none]) := by kernel_rfl
@[simp] theorem tsz21 : tsz Tryd.prog 21 = some 1 := by kernel_rfl
@[simp] theorem tbytes21 : tbytes Tryd.prog 21 = some 4 := by kernel_rfl
@[simp] theorem tagg21 : tagg Tryd.prog 21 = some false := by kernel_rfl
@[simp] theorem tzero21 : tzero Tryd.prog 21 = some (Go.Abs.AV.int Go.IntKind.i32 0) := by kernel_rfl
@[simp] theorem intT21 : intT Tryd.prog 21 = some .i32 := by kernel_rfl
@[simp] theorem tsz22 : tsz Tryd.prog 22 = some 1 := by kernel_rfl
@[simp] theorem tbytes22 : tbytes Tryd.prog 22 = some 8 := by kernel_rfl
@[simp] theorem tagg22 : tagg Tryd.prog 22 = some false := by kernel_rfl
@[simp] theorem tzero22 : tzero Tryd.prog 22 = some (Go.Abs.AV.int Go.IntKind.i64 0) := by kernel_rfl
@[simp] theorem intT22 : intT Tryd.prog 22 = some .i64 := by kernel_rfl
@[simp] theorem tsz26 : tsz Tryd.prog 26 = some 1 := by kernel_rfl
@[simp] theorem tbytes26 : tbytes Tryd.prog 26 = some 4 := by kernel_rfl
@[simp] theorem tagg26 : tagg Tryd.prog 26 = some false := by kernel_rfl
@[simp] theorem tzero26 : tzero Tryd.prog 26 = some (Go.Abs.AV.int Go.IntKind.u32 0) := by kernel_rfl
@[simp] theorem intT26 : intT Tryd.prog 26 = some .u32 := by kernel_rfl
@[simp] theorem tsz27 : tsz Tryd.prog 27 = some 1 := by kernel_rfl
@[simp] theorem tbytes27 : tbytes Tryd.prog 27 = some 4 := by kernel_rfl
@[simp] theorem tagg27 : tagg Tryd.prog 27 = some false := by kernel_rfl
@[simp] theorem tzero27 : tzero Tryd.prog 27 = some (Go.Abs.AV.int Go.IntKind.u32 0) := by kernel_rfl
@[simp] theorem intT27 : intT Tryd.prog 27 = some .u32 := by kernel_rfl
@[simp] theorem tsz28 : tsz Tryd.prog 28 = some 2 := by kernel_rfl
@[simp] theorem tbytes28 : tbytes Tryd.prog 28 = some 8 := by kernel_rfl
@[simp] theorem tagg28 : tagg Tryd.prog 28 = some true := by kernel_rfl
@[simp] theorem tzero28 : tzero Tryd.prog 28 = some (Go.Abs.AV.agg [Go.Abs.AV.int Go.IntKind.u32 0, Go.Abs.AV.int Go.IntKind.u32 0]) := by kernel_rfl
@[simp] theorem isArrT28 : isArrT Tryd.prog 28 = some 2 := by kernel_rfl
@[simp] theorem elemA28 : elemA Tryd.prog 28 = some (2, 1) := by kernel_rfl
@[simp] theorem tsz29 : tsz Tryd.prog 29 = some 5 := by kernel_rfl
@[simp] theorem tbytes29 : tbytes Tryd.prog 29 = some 48 := by kernel_rfl
@[simp] theorem tagg29 : tagg Tryd.prog 29 = some true := by kernel_rfl
@[simp] theorem tzero29 : tzero Tryd.prog 29 = some (Go.Abs.AV.agg [Go.Abs.AV.str [], Go.Abs.AV.str [], Go.Abs.AV.int Go.IntKind.i64 0, Go.Abs.AV.int Go.IntKind.u32 0, Go.Abs.AV.int Go.IntKind.u32 0]) := by kernel_rfl
@[simp] theorem tsz30 : tsz Tryd.prog 30 = some 5 := by kernel_rfl
@[simp] theorem tbytes30 : tbytes Tryd.prog 30 = some 48 := by kernel_rfl
@[simp] theorem tagg30 : tagg Tryd.prog 30 = some true := by kernel_rfl
@[simp] theorem tzero30 : tzero Tryd.prog 30 = some (Go.Abs.AV.agg [Go.Abs.AV.str [], Go.Abs.AV.str [], Go.Abs.AV.int Go.IntKind.i64 0, Go.Abs.AV.int Go.IntKind.u32 0, Go.Abs.AV.int Go.IntKind.u32 0]) := by kernel_rfl
@[simp] theorem tsz40 : tsz Tryd.prog 40 = some 1 := by kernel_rfl
@[simp] theorem tbytes40 : tbytes Tryd.prog 40 = some 24 := by kernel_rfl
@[simp] theorem tagg40 : tagg Tryd.prog 40 = some false := by kernel_rfl
@[simp] theorem tzero40 : tzero Tryd.prog 40 = some (Go.Abs.AV.slice none 0 0 none) := by kernel_rfl
@[simp] theorem isStrT40 : isStrT Tryd.prog 40 = false := by kernel_rfl
@[simp] theorem bytesT40 : bytesT Tryd.prog 40 = false := by kernel_rfl
@[simp] theorem elemT40 : elemT Tryd.prog 40 = some 9 := by kernel_rfl
@[simp] theorem isSliceT40 : isSliceT Tryd.prog 40 = true := by kernel_rfl
@[simp] theorem elemS40 : elemS Tryd.prog 40 = some 1 := by kernel_rfl
@[simp] theorem elemF40 : elemF Tryd.prog 40 = some (9, 16, 1, [Go.Abs.AV.str []]) := by kernel_rfl
@[simp] theorem tsz44 : tsz Tryd.prog 44 = some 1 := by kernel_rfl
@[simp] theorem tbytes44 : tbytes Tryd.prog 44 = some 8 := by kernel_rfl
@[simp] theorem tagg44 : tagg Tryd.prog 44 = some false := by kernel_rfl
@[simp] theorem tzero44 : tzero Tryd.prog 44 = some Go.Abs.AV.nilFunc := by kernel_rfl
@[simp] theorem tsz53 : tsz Tryd.prog 53 = some 1 := by kernel_rfl
@[simp] theorem tbytes53 : tbytes Tryd.prog 53 = some 24 := by kernel_rfl
@[simp] theorem tagg53 : tagg Tryd.prog 53 = some false := by kernel_rfl
@[simp] theorem tzero53 : tzero Tryd.prog 53 = some (Go.Abs.AV.slice none 0 0 none) := by kernel_rfl
@[simp] theorem isStrT53 : isStrT Tryd.prog 53 = false := by kernel_rfl
@[simp] theorem bytesT53 : bytesT Tryd.prog 53 = true := by kernel_rfl
@[simp] theorem elemT53 : elemT Tryd.prog 53 = some 5 := by kernel_rfl
@[simp] theorem isSliceT53 : isSliceT Tryd.prog 53 = true := by kernel_rfl
@[simp] theorem elemS53 : elemS Tryd.prog 53 = some 1 := by kernel_rfl
@[simp] theorem elemF53 : elemF Tryd.prog 53 = some (5, 1, 1, [Go.Abs.AV.int Go.IntKind.u8 0]) := by kernel_rfl
@[simp] theorem tsz54 : tsz Tryd.prog 54 = some 256 := by kernel_rfl
@[simp] theorem tbytes54 : tbytes Tryd.prog 54 = some 256 := by kernel_rfl
@[simp] theorem tagg54 : tagg Tryd.prog 54 = some true := by kernel_rfl
@[simp] theorem tzero54 : tzero Tryd.prog 54 = some (.agg (cellsOfBytes (zeroB 256))) := by kernel_rfl
@[simp] theorem isArrT54 : isArrT Tryd.prog 54 = some 256 := by kernel_rfl
@[simp] theorem elemA54 : elemA Tryd.prog 54 = some (256, 1) := by kernel_rfl
@[simp] theorem tsz58 : tsz Tryd.prog 58 = some 1 := by kernel_rfl
@[simp] theorem tbytes58 : tbytes Tryd.prog 58 = some 8 := by kernel_rfl
@[simp] theorem tagg58 : tagg Tryd.prog 58 = some false := by kernel_rfl
@[simp] theorem tzero58 : tzero Tryd.prog 58 = some (Go.Abs.AV.int Go.IntKind.u64 0) := by kernel_rfl
@[simp] theorem intT58 : intT Tryd.prog 58 = some .u64 := by kernel_rfl
@[simp] theorem tsz66 : tsz Tryd.prog 66 = some 1 := by kernel_rfl
@[simp] theorem tbytes66 : tbytes Tryd.prog 66 = some 24 := by kernel_rfl
@[simp] theorem tagg66 : tagg Tryd.prog 66 = some false := by kernel_rfl
@[simp] theorem tzero66 : tzero Tryd.prog 66 = some (Go.Abs.AV.slice none 0 0 none) := by kernel_rfl
@[simp] theorem isStrT66 : isStrT Tryd.prog 66 = false := by kernel_rfl
@[simp] theorem bytesT66 : bytesT Tryd.prog 66 = false := by kernel_rfl
@[simp] theorem elemT66 : elemT Tryd.prog 66 = some 68 := by kernel_rfl
@[simp] theorem isSliceT66 : isSliceT Tryd.prog 66 = true := by kernel_rfl
@[simp] theorem elemS66 : elemS Tryd.prog 66 = some 2 := by kernel_rfl
@[simp] theorem elemF66 : elemF Tryd.prog 66 = some (68, 16, 2, [Go.Abs.AV.int Go.IntKind.i64 0, Go.Abs.AV.int Go.IntKind.i64 0]) := by kernel_rfl
@[simp] theorem tsz67 : tsz Tryd.prog 67 = some 2 := by kernel_rfl
@[simp] theorem tbytes67 : tbytes Tryd.prog 67 = some 16 := by kernel_rfl
@[simp] theorem tagg67 : tagg Tryd.prog 67 = some true := by kernel_rfl
@[simp] theorem tzero67 : tzero Tryd.prog 67 = some (Go.Abs.AV.agg [Go.Abs.AV.int Go.IntKind.i64 0, Go.Abs.AV.int Go.IntKind.i64 0]) := by kernel_rfl
@[simp] theorem tsz68 : tsz Tryd.prog 68 = some 2 := by kernel_rfl
@[simp] theorem tbytes68 : tbytes Tryd.prog 68 = some 16 := by kernel_rfl
@[simp] theorem tagg68 : tagg Tryd.prog 68 = some true := by kernel_rfl
@[simp] theorem tzero68 : tzero Tryd.prog 68 = some (Go.Abs.AV.agg [Go.Abs.AV.int Go.IntKind.i64 0, Go.Abs.AV.int Go.IntKind.i64 0]) := by kernel_rfl
@[simp] theorem tsz70 : tsz Tryd.prog 70 = some 1 := by kernel_rfl
@[simp] theorem tbytes70 : tbytes Tryd.prog 70 = some 8 := by kernel_rfl
@[simp] theorem tagg70 : tagg Tryd.prog 70 = some false := by kernel_rfl
@[simp] theorem tzero70 : tzero Tryd.prog 70 = some (Go.Abs.AV.ptr none) := by kernel_rfl
@[simp] theorem isPtrT70 : isPtrT Tryd.prog 70 = true := by kernel_rfl
@[simp] theorem tsz72 : tsz Tryd.prog 72 = some 1 := by kernel_rfl
@[simp] theorem tbytes72 : tbytes Tryd.prog 72 = some 24 := by kernel_rfl
@[simp] theorem tagg72 : tagg Tryd.prog 72 = some false := by kernel_rfl
@[simp] theorem tzero72 : tzero Tryd.prog 72 = some (Go.Abs.AV.slice none 0 0 none) := by kernel_rfl
@[simp] theorem isStrT72 : isStrT Tryd.prog 72 = false := by kernel_rfl
@[simp] theorem bytesT72 : bytesT Tryd.prog 72 = false := by kernel_rfl
@[simp] theorem elemT72 : elemT Tryd.prog 72 = some 78 := by kernel_rfl
@[simp] theorem isSliceT72 : isSliceT Tryd.prog 72 = true := by kernel_rfl
@[simp] theorem elemS72 : elemS Tryd.prog 72 = some 3 := by kernel_rfl
@[simp] theorem elemF72 : elemF Tryd.prog 72 = some (78, 6, 3, [Go.Abs.AV.int Go.IntKind.u16 0, Go.Abs.AV.int Go.IntKind.u16 0, Go.Abs.AV.int Go.IntKind.u16 0]) := by kernel_rfl
@[simp] theorem tsz73 : tsz Tryd.prog 73 = some 1 := by kernel_rfl
@[simp] theorem tbytes73 : tbytes Tryd.prog 73 = some 24 := by kernel_rfl
@[simp] theorem tagg73 : tagg Tryd.prog 73 = some false := by kernel_rfl
@[simp] theorem tzero73 : tzero Tryd.prog 73 = some (Go.Abs.AV.slice none 0 0 none) := by kernel_rfl
@[simp] theorem isStrT73 : isStrT Tryd.prog 73 = false := by kernel_rfl
@[simp] theorem bytesT73 : bytesT Tryd.prog 73 = false := by kernel_rfl
@[simp] theorem elemT73 : elemT Tryd.prog 73 = some 81 := by kernel_rfl
@[simp] theorem isSliceT73 : isSliceT Tryd.prog 73 = true := by kernel_rfl
@[simp] theorem elemS73 : elemS Tryd.prog 73 = some 3 := by kernel_rfl
@[simp] theorem elemF73 : elemF Tryd.prog 73 = some (81, 12, 3, [Go.Abs.AV.int Go.IntKind.u32 0, Go.Abs.AV.int Go.IntKind.u32 0, Go.Abs.AV.int Go.IntKind.u32 0]) := by kernel_rfl
@[simp] theorem tsz74 : tsz Tryd.prog 74 = some 3 := by kernel_rfl
@[simp] theorem tbytes74 : tbytes Tryd.prog 74 = some 56 := by kernel_rfl
@[simp] theorem tagg74 : tagg Tryd.prog 74 = some true := by kernel_rfl
@[simp] theorem tzero74 : tzero Tryd.prog 74 = some (Go.Abs.AV.agg [Go.Abs.AV.slice none 0 0 none, Go.Abs.AV.slice none 0 0 none, Go.Abs.AV.int Go.IntKind.i64 0]) := by kernel_rfl
@[simp] theorem tsz75 : tsz Tryd.prog 75 = some 3 := by kernel_rfl
@[simp] theorem tbytes75 : tbytes Tryd.prog 75 = some 56 := by kernel_rfl
@[simp] theorem tagg75 : tagg Tryd.prog 75 = some true := by kernel_rfl
@[simp] theorem tzero75 : tzero Tryd.prog 75 = some (Go.Abs.AV.agg [Go.Abs.AV.slice none 0 0 none, Go.Abs.AV.slice none 0 0 none, Go.Abs.AV.int Go.IntKind.i64 0]) := by kernel_rfl
@[simp] theorem tsz76 : tsz Tryd.prog 76 = some 1 := by kernel_rfl
@[simp] theorem tbytes76 : tbytes Tryd.prog 76 = some 2 := by kernel_rfl
@[simp] theorem tagg76 : tagg Tryd.prog 76 = some false := by kernel_rfl
@[simp] theorem tzero76 : tzero Tryd.prog 76 = some (Go.Abs.AV.int Go.IntKind.u16 0) := by kernel_rfl
@[simp] theorem intT76 : intT Tryd.prog 76 = some .u16 := by kernel_rfl
@[simp] theorem tsz77 : tsz Tryd.prog 77 = some 3 := by kernel_rfl
@[simp] theorem tbytes77 : tbytes Tryd.prog 77 = some 6 := by kernel_rfl
@[simp] theorem tagg77 : tagg Tryd.prog 77 = some true := by kernel_rfl
@[simp] theorem tzero77 : tzero Tryd.prog 77 = some (Go.Abs.AV.agg [Go.Abs.AV.int Go.IntKind.u16 0, Go.Abs.AV.int Go.IntKind.u16 0, Go.Abs.AV.int Go.IntKind.u16 0]) := by kernel_rfl
@[simp] theorem tsz78 : tsz Tryd.prog 78 = some 3 := by kernel_rfl
@[simp] theorem tbytes78 : tbytes Tryd.prog 78 = some 6 := by kernel_rfl
@[simp] theorem tagg78 : tagg Tryd.prog 78 = some true := by kernel_rfl
@[simp] theorem tzero78 : tzero Tryd.prog 78 = some (Go.Abs.AV.agg [Go.Abs.AV.int Go.IntKind.u16 0, Go.Abs.AV.int Go.IntKind.u16 0, Go.Abs.AV.int Go.IntKind.u16 0]) := by kernel_rfl
@[simp] theorem tsz80 : tsz Tryd.prog 80 = some 3 := by kernel_rfl
@[simp] theorem tbytes80 : tbytes Tryd.prog 80 = some 12 := by kernel_rfl
@[simp] theorem tagg80 : tagg Tryd.prog 80 = some true := by kernel_rfl
@[simp] theorem tzero80 : tzero Tryd.prog 80 = some (Go.Abs.AV.agg [Go.Abs.AV.int Go.IntKind.u32 0, Go.Abs.AV.int Go.IntKind.u32 0, Go.Abs.AV.int Go.IntKind.u32 0]) := by kernel_rfl
@[simp] theorem tsz81 : tsz Tryd.prog 81 = some 3 := by kernel_rfl
@[simp] theorem tbytes81 : tbytes Tryd.prog 81 = some 12 := by kernel_rfl
@[simp] theorem tagg81 : tagg Tryd.prog 81 = some true := by kernel_rfl
@[simp] theorem tzero81 : tzero Tryd.prog 81 = some (Go.Abs.AV.agg [Go.Abs.AV.int Go.IntKind.u32 0, Go.Abs.AV.int Go.IntKind.u32 0, Go.Abs.AV.int Go.IntKind.u32 0]) := by kernel_rfl
@[simp] theorem tsz85 : tsz Tryd.prog 85 = some 2 := by kernel_rfl
@[simp] theorem tbytes85 : tbytes Tryd.prog 85 = some 2 := by kernel_rfl
@[simp] theorem tagg85 : tagg Tryd.prog 85 = some true := by kernel_rfl
@[simp] theorem tzero85 : tzero Tryd.prog 85 = some (Go.Abs.AV.agg [Go.Abs.AV.int Go.IntKind.u8 0, Go.Abs.AV.int Go.IntKind.u8 0]) := by kernel_rfl
@[simp] theorem tsz86 : tsz Tryd.prog 86 = some 2 := by kernel_rfl
@[simp] theorem tbytes86 : tbytes Tryd.prog 86 = some 2 := by kernel_rfl
@[simp] theorem tagg86 : tagg Tryd.prog 86 = some true := by kernel_rfl
@[simp] theorem tzero86 : tzero Tryd.prog 86 = some (Go.Abs.AV.agg [Go.Abs.AV.int Go.IntKind.u8 0, Go.Abs.AV.int Go.IntKind.u8 0]) := by kernel_rfl
@[simp] theorem tsz87 : tsz Tryd.prog 87 = some 32 := by kernel_rfl
@[simp] theorem tbytes87 : tbytes Tryd.prog 87 = some 32 := by kernel_rfl
@[simp] theorem tagg87 : tagg Tryd.prog 87 = some true := by kernel_rfl
@[simp] theorem tzero87 : tzero Tryd.prog 87 = some (Go.Abs.AV.agg [Go.Abs.AV.int Go.IntKind.u8 0, Go.Abs.AV.int Go.IntKind.u8 0, Go.Abs.AV.int Go.IntKind.u8 0, Go.Abs.AV.int Go.IntKind.u8 0, Go.Abs.AV.int Go.IntKind.u8 0, Go.Abs.AV.int Go.IntKind.u8 0, Go.Abs.AV.int Go.IntKind.u8 0, Go.Abs.AV.int Go.IntKind.u8 0, Go.Abs.AV.int Go.IntKind.u8 0, Go.Abs.AV.int Go.IntKind.u8 0, Go.Abs.AV.int Go.IntKind.u8 0, Go.Abs.AV.int Go.IntKind.u8 0, Go.Abs.AV.int Go.IntKind.u8 0, Go.Abs.AV.int Go.IntKind.u8 0, Go.Abs.AV.int Go.IntKind.u8 0, Go.Abs.AV.int Go.IntKind.u8 0, Go.Abs.AV.int Go.IntKind.u8 0, Go.Abs.AV.int Go.IntKind.u8 0, Go.Abs.AV.int Go.IntKind.u8 0, Go.Abs.AV.int Go.IntKind.u8 0, Go.Abs.AV.int Go.IntKind.u8 0, Go.Abs.AV.int Go.IntKind.u8 0, Go.Abs.AV.int Go.IntKind.u8 0, Go.Abs.AV.int Go.IntKind.u8 0, Go.Abs.AV.int Go.IntKind.u8 0, Go.Abs.AV.int Go.IntKind.u8 0, Go.Abs.AV.int Go.IntKind.u8 0, Go.Abs.AV.int Go.IntKind.u8 0, Go.Abs.AV.int Go.IntKind.u8 0, Go.Abs.AV.int Go.IntKind.u8 0, Go.Abs.AV.int Go.IntKind.u8 0, Go.Abs.AV.int Go.IntKind.u8 0]) := by kernel_rfl
@[simp] theorem isArrT87 : isArrT Tryd.prog 87 = some 16 := by kernel_rfl
@[simp] theorem elemA87 : elemA Tryd.prog 87 = some (16, 2) := by kernel_rfl
@[simp] theorem tsz89 : tsz Tryd.prog 89 = some 1 := by kernel_rfl
@[simp] theorem tbytes89 : tbytes Tryd.prog 89 = some 8 := by kernel_rfl
@[simp] theorem tagg89 : tagg Tryd.prog 89 = some false := by kernel_rfl
@[simp] theorem tzero89 : tzero Tryd.prog 89 = some (Go.Abs.AV.ptr none) := by kernel_rfl
@[simp] theorem isPtrT89 : isPtrT Tryd.prog 89 = true := by kernel_rfl
@[simp] theorem tsz90 : tsz Tryd.prog 90 = some 1 := by kernel_rfl
@[simp] theorem tbytes90 : tbytes Tryd.prog 90 = some 8 := by kernel_rfl
@[simp] theorem tagg90 : tagg Tryd.prog 90 = some false := by kernel_rfl
@[simp] theorem tzero90 : tzero Tryd.prog 90 = some (Go.Abs.AV.ptr none) := by kernel_rfl
@[simp] theorem isPtrT90 : isPtrT Tryd.prog 90 = true := by kernel_rfl
@[simp] theorem tsz94 : tsz Tryd.prog 94 = some 4 := by kernel_rfl
@[simp] theorem tbytes94 : tbytes Tryd.prog 94 = some 40 := by kernel_rfl
@[simp] theorem tagg94 : tagg Tryd.prog 94 = some true := by kernel_rfl
@[simp] theorem tzero94 : tzero Tryd.prog 94 = some (Go.Abs.AV.agg [Go.Abs.AV.ptr none, Go.Abs.AV.ptr none, Go.Abs.AV.ptr none, Go.Abs.AV.str []]) := by kernel_rfl
@[simp] theorem tsz95 : tsz Tryd.prog 95 = some 4 := by kernel_rfl
@[simp] theorem tbytes95 : tbytes Tryd.prog 95 = some 40 := by kernel_rfl
@[simp] theorem tagg95 : tagg Tryd.prog 95 = some true := by kernel_rfl
@[simp] theorem tzero95 : tzero Tryd.prog 95 = some (Go.Abs.AV.agg [Go.Abs.AV.ptr none, Go.Abs.AV.ptr none, Go.Abs.AV.ptr none, Go.Abs.AV.str []]) := by kernel_rfl
@[simp] theorem tsz96 : tsz Tryd.prog 96 = some 0 := by kernel_rfl
@[simp] theorem tbytes96 : tbytes Tryd.prog 96 = some 0 := by kernel_rfl
@[simp] theorem tagg96 : tagg Tryd.prog 96 = some true := by kernel_rfl
@[simp] theorem tzero96 : tzero Tryd.prog 96 = some (Go.Abs.AV.agg []) := by kernel_rfl
@[simp] theorem isArrT96 : isArrT Tryd.prog 96 = some 0 := by kernel_rfl
@[simp] theorem elemA96 : elemA Tryd.prog 96 = some (0, 1) := by kernel_rfl
@[simp] theorem tsz97 : tsz Tryd.prog 97 = some 0 := by kernel_rfl
@[simp] theorem tbytes97 : tbytes Tryd.prog 97 = some 0 := by kernel_rfl
@[simp] theorem tagg97 : tagg Tryd.prog 97 = some true := by kernel_rfl
@[simp] theorem tzero97 : tzero Tryd.prog 97 = some (Go.Abs.AV.agg []) := by kernel_rfl
@[simp] theorem tsz98 : tsz Tryd.prog 98 = some 0 := by kernel_rfl
@[simp] theorem tbytes98 : tbytes Tryd.prog 98 = some 0 := by kernel_rfl
@[simp] theorem tagg98 : tagg Tryd.prog 98 = some true := by kernel_rfl
@[simp] theorem tzero98 : tzero Tryd.prog 98 = some (Go.Abs.AV.agg []) := by kernel_rfl
@[simp] theorem tsz100 : tsz Tryd.prog 100 = some 1 := by kernel_rfl
@[simp] theorem tbytes100 : tbytes Tryd.prog 100 = some 1 := by kernel_rfl
@[simp] theorem tagg100 : tagg Tryd.prog 100 = some false := by kernel_rfl
@[simp] theorem tzero100 : tzero Tryd.prog 100 = some (Go.Abs.AV.int Go.IntKind.u8 0) := by kernel_rfl
@[simp] theorem intT100 : intT Tryd.prog 100 = some .u8 := by kernel_rfl
@[simp] theorem tsz101 : tsz Tryd.prog 101 = some 1 := by kernel_rfl
@[simp] theorem tbytes101 : tbytes Tryd.prog 101 = some 1 := by kernel_rfl
@[simp] theorem tagg101 : tagg Tryd.prog 101 = some false := by kernel_rfl
@[simp] theorem tzero101 : tzero Tryd.prog 101 = some (Go.Abs.AV.int Go.IntKind.u8 0) := by kernel_rfl
@[simp] theorem intT101 : intT Tryd.prog 101 = some .u8 := by kernel_rfl
@[simp] theorem tsz103 : tsz Tryd.prog 103 = some 1 := by kernel_rfl
@[simp] theorem tbytes103 : tbytes Tryd.prog 103 = some 8 := by kernel_rfl
@[simp] theorem tagg103 : tagg Tryd.prog 103 = some false := by kernel_rfl
@[simp] theorem tzero103 : tzero Tryd.prog 103 = some (Go.Abs.AV.ptr none) := by kernel_rfl
@[simp] theorem isPtrT103 : isPtrT Tryd.prog 103 = true := by kernel_rfl
@[simp] theorem tsz104 : tsz Tryd.prog 104 = some 1 := by kernel_rfl
@[simp] theorem tbytes104 : tbytes Tryd.prog 104 = some 4 := by kernel_rfl
@[simp] theorem tagg104 : tagg Tryd.prog 104 = some false := by kernel_rfl
@[simp] theorem tzero104 : tzero Tryd.prog 104 = some (Go.Abs.AV.int Go.IntKind.i32 0) := by kernel_rfl
@[simp] theorem intT104 : intT Tryd.prog 104 = some .i32 := by kernel_rfl
@[simp] theorem tsz105 : tsz Tryd.prog 105 = some 1 := by kernel_rfl
@[simp] theorem tbytes105 : tbytes Tryd.prog 105 = some 4 := by kernel_rfl
@[simp] theorem tagg105 : tagg Tryd.prog 105 = some false := by kernel_rfl
@[simp] theorem tzero105 : tzero Tryd.prog 105 = some (Go.Abs.AV.int Go.IntKind.i32 0) := by kernel_rfl
@[simp] theorem intT105 : intT Tryd.prog 105 = some .i32 := by kernel_rfl
@[simp] theorem tsz106 : tsz Tryd.prog 106 = some 11 := by kernel_rfl
@[simp] theorem tbytes106 : tbytes Tryd.prog 106 = some 48 := by kernel_rfl
@[simp] theorem tagg106 : tagg Tryd.prog 106 = some true := by kernel_rfl
@[simp] theorem tzero106 : tzero Tryd.prog 106 = some (Go.Abs.AV.agg [Go.Abs.AV.int Go.IntKind.u64 0, Go.Abs.AV.int Go.IntKind.u64 0, Go.Abs.AV.int Go.IntKind.u32 0, Go.Abs.AV.int Go.IntKind.u8 0, Go.Abs.AV.int Go.IntKind.u8 0, Go.Abs.AV.int Go.IntKind.u8 0, Go.Abs.AV.int Go.IntKind.u8 0, Go.Abs.AV.nilFunc, Go.Abs.AV.ptr none, Go.Abs.AV.int Go.IntKind.i32 0, Go.Abs.AV.int Go.IntKind.i32 0]) := by kernel_rfl
@[simp] theorem tsz107 : tsz Tryd.prog 107 = some 11 := by kernel_rfl
@[simp] theorem tbytes107 : tbytes Tryd.prog 107 = some 48 := by kernel_rfl
@[simp] theorem tagg107 : tagg Tryd.prog 107 = some true := by kernel_rfl
@[simp] theorem tzero107 : tzero Tryd.prog 107 = some (Go.Abs.AV.agg [Go.Abs.AV.int Go.IntKind.u64 0, Go.Abs.AV.int Go.IntKind.u64 0, Go.Abs.AV.int Go.IntKind.u32 0, Go.Abs.AV.int Go.IntKind.u8 0, Go.Abs.AV.int Go.IntKind.u8 0, Go.Abs.AV.int Go.IntKind.u8 0, Go.Abs.AV.int Go.IntKind.u8 0, Go.Abs.AV.nilFunc, Go.Abs.AV.ptr none, Go.Abs.AV.int Go.IntKind.i32 0, Go.Abs.AV.int Go.IntKind.i32 0]) := by kernel_rfl
@[simp] theorem tsz108 : tsz Tryd.prog 108 = some 1 := by kernel_rfl
@[simp] theorem tbytes108 : tbytes Tryd.prog 108 = some 8 := by kernel_rfl
@[simp] theorem tagg108 : tagg Tryd.prog 108 = some false := by kernel_rfl
@[simp] theorem tzero108 : tzero Tryd.prog 108 = some (Go.Abs.AV.ptr none) := by kernel_rfl

end Go.Abs
