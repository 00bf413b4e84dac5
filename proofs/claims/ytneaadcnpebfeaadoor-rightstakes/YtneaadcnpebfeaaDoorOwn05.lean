/- Texts on this program, joined. -/
import Derived.Test.YtneaadcnpebfeaaDoorKit04
import Derived.Test.YtneaadcnpebfeaaDoorProg
import Derived.KernelRfl

/- The sizes, zero values and kinds of the types of this seat's program, for the walks. -/
namespace Go.Abs
set_option linter.unusedVariables false
open Go.Proofs
set_option maxRecDepth 100000

@[simp] theorem tsz2 : tsz Tryd.prog 2 = some 1 := by kernel_rfl
@[simp] theorem tbytes2 : tbytes Tryd.prog 2 = some 8 := by kernel_rfl
@[simp] theorem tagg2 : tagg Tryd.prog 2 = some false := by kernel_rfl
@[simp] theorem tzero2 : tzero Tryd.prog 2 = some (Go.Abs.AV.int Go.IntKind.i64 0) := by kernel_rfl
@[simp] theorem intT2 : intT Tryd.prog 2 = some .i64 := by kernel_rfl
@[simp] theorem tsz3 : tsz Tryd.prog 3 = some 1 := by kernel_rfl
@[simp] theorem tbytes3 : tbytes Tryd.prog 3 = some 8 := by kernel_rfl
@[simp] theorem tagg3 : tagg Tryd.prog 3 = some false := by kernel_rfl
@[simp] theorem tzero3 : tzero Tryd.prog 3 = some (Go.Abs.AV.int Go.IntKind.i64 0) := by kernel_rfl
@[simp] theorem intT3 : intT Tryd.prog 3 = some .i64 := by kernel_rfl
@[simp] theorem tsz4 : tsz Tryd.prog 4 = some 1 := by kernel_rfl
@[simp] theorem tbytes4 : tbytes Tryd.prog 4 = some 1 := by kernel_rfl
@[simp] theorem tagg4 : tagg Tryd.prog 4 = some false := by kernel_rfl
@[simp] theorem tzero4 : tzero Tryd.prog 4 = some (Go.Abs.AV.bool false) := by kernel_rfl
@[simp] theorem isBoolT4 : isBoolT Tryd.prog 4 = true := by kernel_rfl
@[simp] theorem tsz5 : tsz Tryd.prog 5 = some 1 := by kernel_rfl
@[simp] theorem tbytes5 : tbytes Tryd.prog 5 = some 1 := by kernel_rfl
@[simp] theorem tagg5 : tagg Tryd.prog 5 = some false := by kernel_rfl
@[simp] theorem tzero5 : tzero Tryd.prog 5 = some (Go.Abs.AV.int Go.IntKind.u8 0) := by kernel_rfl
@[simp] theorem intT5 : intT Tryd.prog 5 = some .u8 := by kernel_rfl
@[simp] theorem tsz6 : tsz Tryd.prog 6 = some 1 := by kernel_rfl
@[simp] theorem tbytes6 : tbytes Tryd.prog 6 = some 1 := by kernel_rfl
@[simp] theorem tagg6 : tagg Tryd.prog 6 = some false := by kernel_rfl
@[simp] theorem tzero6 : tzero Tryd.prog 6 = some (Go.Abs.AV.int Go.IntKind.u8 0) := by kernel_rfl
@[simp] theorem intT6 : intT Tryd.prog 6 = some .u8 := by kernel_rfl
@[simp] theorem tsz7 : tsz Tryd.prog 7 = some 4 := by kernel_rfl
@[simp] theorem tbytes7 : tbytes Tryd.prog 7 = some 24 := by kernel_rfl
@[simp] theorem tagg7 : tagg Tryd.prog 7 = some true := by kernel_rfl
@[simp] theorem tzero7 : tzero Tryd.prog 7 = some (Go.Abs.AV.agg [Go.Abs.AV.int Go.IntKind.i64 0, Go.Abs.AV.int Go.IntKind.i64 0, Go.Abs.AV.bool false, Go.Abs.AV.int Go.IntKind.u8 0]) := by kernel_rfl
@[simp] theorem tsz8 : tsz Tryd.prog 8 = some 4 := by kernel_rfl
@[simp] theorem tbytes8 : tbytes Tryd.prog 8 = some 24 := by kernel_rfl
@[simp] theorem tagg8 : tagg Tryd.prog 8 = some true := by kernel_rfl
@[simp] theorem tzero8 : tzero Tryd.prog 8 = some (Go.Abs.AV.agg [Go.Abs.AV.int Go.IntKind.i64 0, Go.Abs.AV.int Go.IntKind.i64 0, Go.Abs.AV.bool false, Go.Abs.AV.int Go.IntKind.u8 0]) := by kernel_rfl
@[simp] theorem tsz9 : tsz Tryd.prog 9 = some 1 := by kernel_rfl
@[simp] theorem tbytes9 : tbytes Tryd.prog 9 = some 16 := by kernel_rfl
@[simp] theorem tagg9 : tagg Tryd.prog 9 = some false := by kernel_rfl
@[simp] theorem tzero9 : tzero Tryd.prog 9 = some (Go.Abs.AV.str []) := by kernel_rfl
@[simp] theorem isStrT9 : isStrT Tryd.prog 9 = true := by kernel_rfl
@[simp] theorem bytesT9 : bytesT Tryd.prog 9 = false := by kernel_rfl
@[simp] theorem tsz10 : tsz Tryd.prog 10 = some 1 := by kernel_rfl
@[simp] theorem tbytes10 : tbytes Tryd.prog 10 = some 16 := by kernel_rfl
@[simp] theorem tagg10 : tagg Tryd.prog 10 = some false := by kernel_rfl
@[simp] theorem tzero10 : tzero Tryd.prog 10 = some (Go.Abs.AV.str []) := by kernel_rfl
@[simp] theorem isStrT10 : isStrT Tryd.prog 10 = true := by kernel_rfl
@[simp] theorem bytesT10 : bytesT Tryd.prog 10 = false := by kernel_rfl
@[simp] theorem tsz11 : tsz Tryd.prog 11 = some 1 := by kernel_rfl
@[simp] theorem tbytes11 : tbytes Tryd.prog 11 = some 16 := by kernel_rfl
@[simp] theorem tagg11 : tagg Tryd.prog 11 = some false := by kernel_rfl
@[simp] theorem tzero11 : tzero Tryd.prog 11 = some (Go.Abs.AV.str []) := by kernel_rfl
@[simp] theorem isStrT11 : isStrT Tryd.prog 11 = true := by kernel_rfl
@[simp] theorem bytesT11 : bytesT Tryd.prog 11 = false := by kernel_rfl
@[simp] theorem tsz12 : tsz Tryd.prog 12 = some 1 := by kernel_rfl
@[simp] theorem tbytes12 : tbytes Tryd.prog 12 = some 8 := by kernel_rfl
@[simp] theorem tagg12 : tagg Tryd.prog 12 = some false := by kernel_rfl
@[simp] theorem tzero12 : tzero Tryd.prog 12 = some (Go.Abs.AV.int Go.IntKind.u64 0) := by kernel_rfl
@[simp] theorem intT12 : intT Tryd.prog 12 = some .u64 := by kernel_rfl
@[simp] theorem tsz13 : tsz Tryd.prog 13 = some 2 := by kernel_rfl
@[simp] theorem tbytes13 : tbytes Tryd.prog 13 = some 24 := by kernel_rfl
@[simp] theorem tagg13 : tagg Tryd.prog 13 = some true := by kernel_rfl
@[simp] theorem tzero13 : tzero Tryd.prog 13 = some (Go.Abs.AV.agg [Go.Abs.AV.str [], Go.Abs.AV.int Go.IntKind.u64 0]) := by kernel_rfl
@[simp] theorem tsz14 : tsz Tryd.prog 14 = some 2 := by kernel_rfl
@[simp] theorem tbytes14 : tbytes Tryd.prog 14 = some 24 := by kernel_rfl
@[simp] theorem tagg14 : tagg Tryd.prog 14 = some true := by kernel_rfl
@[simp] theorem tzero14 : tzero Tryd.prog 14 = some (Go.Abs.AV.agg [Go.Abs.AV.str [], Go.Abs.AV.int Go.IntKind.u64 0]) := by kernel_rfl
@[simp] theorem tsz15 : tsz Tryd.prog 15 = some 1 := by kernel_rfl
@[simp] theorem tbytes15 : tbytes Tryd.prog 15 = some 8 := by kernel_rfl
@[simp] theorem tagg15 : tagg Tryd.prog 15 = some false := by kernel_rfl
@[simp] theorem tzero15 : tzero Tryd.prog 15 = some (Go.Abs.AV.ptr none) := by kernel_rfl
@[simp] theorem isPtrT15 : isPtrT Tryd.prog 15 = true := by kernel_rfl
@[simp] theorem tsz16 : tsz Tryd.prog 16 = some 1 := by kernel_rfl
@[simp] theorem tbytes16 : tbytes Tryd.prog 16 = some 8 := by kernel_rfl
@[simp] theorem tagg16 : tagg Tryd.prog 16 = some false := by kernel_rfl
@[simp] theorem tzero16 : tzero Tryd.prog 16 = some (Go.Abs.AV.ptr none) := by kernel_rfl
@[simp] theorem isPtrT16 : isPtrT Tryd.prog 16 = true := by kernel_rfl
@[simp] theorem tsz17 : tsz Tryd.prog 17 = some 1 := by kernel_rfl
@[simp] theorem tbytes17 : tbytes Tryd.prog 17 = some 8 := by kernel_rfl
@[simp] theorem tagg17 : tagg Tryd.prog 17 = some false := by kernel_rfl
@[simp] theorem tzero17 : tzero Tryd.prog 17 = some (Go.Abs.AV.ptr none) := by kernel_rfl
@[simp] theorem isPtrT17 : isPtrT Tryd.prog 17 = true := by kernel_rfl
@[simp] theorem tsz18 : tsz Tryd.prog 18 = some 1 := by kernel_rfl
@[simp] theorem tbytes18 : tbytes Tryd.prog 18 = some 8 := by kernel_rfl
@[simp] theorem tagg18 : tagg Tryd.prog 18 = some true := by kernel_rfl
@[simp] theorem tzero18 : tzero Tryd.prog 18 = some (Go.Abs.AV.agg [Go.Abs.AV.ptr none]) := by kernel_rfl
@[simp] theorem tsz19 : tsz Tryd.prog 19 = some 1 := by kernel_rfl
@[simp] theorem tbytes19 : tbytes Tryd.prog 19 = some 8 := by kernel_rfl
@[simp] theorem tagg19 : tagg Tryd.prog 19 = some true := by kernel_rfl
@[simp] theorem tzero19 : tzero Tryd.prog 19 = some (Go.Abs.AV.agg [Go.Abs.AV.ptr none]) := by kernel_rfl
@[simp] theorem tsz21 : tsz Tryd.prog 21 = some 1 := by kernel_rfl
@[simp] theorem tbytes21 : tbytes Tryd.prog 21 = some 4 := by kernel_rfl
@[simp] theorem tagg21 : tagg Tryd.prog 21 = some false := by kernel_rfl
@[simp] theorem tzero21 : tzero Tryd.prog 21 = some (Go.Abs.AV.int Go.IntKind.i32 0) := by kernel_rfl
@[simp] theorem intT21 : intT Tryd.prog 21 = some .i32 := by kernel_rfl
@[simp] theorem tsz22 : tsz Tryd.prog 22 = some 1 := by kernel_rfl
@[simp] theorem tbytes22 : tbytes Tryd.prog 22 = some 4 := by kernel_rfl
@[simp] theorem tagg22 : tagg Tryd.prog 22 = some false := by kernel_rfl
@[simp] theorem tzero22 : tzero Tryd.prog 22 = some (Go.Abs.AV.int Go.IntKind.u32 0) := by kernel_rfl
@[simp] theorem intT22 : intT Tryd.prog 22 = some .u32 := by kernel_rfl
@[simp] theorem tsz23 : tsz Tryd.prog 23 = some 1 := by kernel_rfl
@[simp] theorem tbytes23 : tbytes Tryd.prog 23 = some 4 := by kernel_rfl
@[simp] theorem tagg23 : tagg Tryd.prog 23 = some false := by kernel_rfl
@[simp] theorem tzero23 : tzero Tryd.prog 23 = some (Go.Abs.AV.int Go.IntKind.u32 0) := by kernel_rfl
@[simp] theorem intT23 : intT Tryd.prog 23 = some .u32 := by kernel_rfl
@[simp] theorem tsz27 : tsz Tryd.prog 27 = some 1 := by kernel_rfl
@[simp] theorem tbytes27 : tbytes Tryd.prog 27 = some 8 := by kernel_rfl
@[simp] theorem tagg27 : tagg Tryd.prog 27 = some false := by kernel_rfl
@[simp] theorem tzero27 : tzero Tryd.prog 27 = some (Go.Abs.AV.int Go.IntKind.i64 0) := by kernel_rfl
@[simp] theorem intT27 : intT Tryd.prog 27 = some .i64 := by kernel_rfl
@[simp] theorem tsz40 : tsz Tryd.prog 40 = some 1 := by kernel_rfl
@[simp] theorem tbytes40 : tbytes Tryd.prog 40 = some 24 := by kernel_rfl
@[simp] theorem tagg40 : tagg Tryd.prog 40 = some false := by kernel_rfl
@[simp] theorem tzero40 : tzero Tryd.prog 40 = some (Go.Abs.AV.slice none 0 0 none) := by kernel_rfl
@[simp] theorem isStrT40 : isStrT Tryd.prog 40 = false := by kernel_rfl
@[simp] theorem bytesT40 : bytesT Tryd.prog 40 = false := by kernel_rfl
@[simp] theorem elemT40 : elemT Tryd.prog 40 = some 9 := by kernel_rfl
@[simp] theorem isSliceT40 : isSliceT Tryd.prog 40 = true := by kernel_rfl
@[simp] theorem elemS40 : elemS Tryd.prog 40 = some 1 := by kernel_rfl
@[simp] theorem elemF40 : elemF Tryd.prog 40 = some (9, 16, 1, [Go.Abs.AV.str []]) := by kernel_rfl
@[simp] theorem tsz43 : tsz Tryd.prog 43 = some 1 := by kernel_rfl
@[simp] theorem tbytes43 : tbytes Tryd.prog 43 = some 24 := by kernel_rfl
@[simp] theorem tagg43 : tagg Tryd.prog 43 = some false := by kernel_rfl
@[simp] theorem tzero43 : tzero Tryd.prog 43 = some (Go.Abs.AV.slice none 0 0 none) := by kernel_rfl
@[simp] theorem isStrT43 : isStrT Tryd.prog 43 = false := by kernel_rfl
@[simp] theorem bytesT43 : bytesT Tryd.prog 43 = false := by kernel_rfl
@[simp] theorem elemT43 : elemT Tryd.prog 43 = some 46 := by kernel_rfl
@[simp] theorem isSliceT43 : isSliceT Tryd.prog 43 = true := by kernel_rfl
@[simp] theorem elemS43 : elemS Tryd.prog 43 = some 1 := by kernel_rfl
@[simp] theorem elemF43 : elemF Tryd.prog 43 = some (46, 8, 1, [Go.Abs.AV.int Go.IntKind.u64 0]) := by kernel_rfl
@[simp] theorem tsz46 : tsz Tryd.prog 46 = some 1 := by kernel_rfl
@[simp] theorem tbytes46 : tbytes Tryd.prog 46 = some 8 := by kernel_rfl
@[simp] theorem tagg46 : tagg Tryd.prog 46 = some false := by kernel_rfl
@[simp] theorem tzero46 : tzero Tryd.prog 46 = some (Go.Abs.AV.int Go.IntKind.u64 0) := by kernel_rfl
@[simp] theorem intT46 : intT Tryd.prog 46 = some .u64 := by kernel_rfl
@[simp] theorem tsz47 : tsz Tryd.prog 47 = some 2 := by kernel_rfl
@[simp] theorem tbytes47 : tbytes Tryd.prog 47 = some 16 := by kernel_rfl
@[simp] theorem tagg47 : tagg Tryd.prog 47 = some true := by kernel_rfl
@[simp] theorem tzero47 : tzero Tryd.prog 47 = some (Go.Abs.AV.agg [Go.Abs.AV.int Go.IntKind.u64 0, Go.Abs.AV.int Go.IntKind.u64 0]) := by kernel_rfl
@[simp] theorem isArrT47 : isArrT Tryd.prog 47 = some 2 := by kernel_rfl
@[simp] theorem elemA47 : elemA Tryd.prog 47 = some (2, 1) := by kernel_rfl
@[simp] theorem tsz51 : tsz Tryd.prog 51 = some 1 := by kernel_rfl
@[simp] theorem tbytes51 : tbytes Tryd.prog 51 = some 8 := by kernel_rfl
@[simp] theorem tagg51 : tagg Tryd.prog 51 = some false := by kernel_rfl
@[simp] theorem tzero51 : tzero Tryd.prog 51 = some Go.Abs.AV.nilFunc := by kernel_rfl
@[simp] theorem tsz53 : tsz Tryd.prog 53 = some 1 := by kernel_rfl
@[simp] theorem tbytes53 : tbytes Tryd.prog 53 = some 24 := by kernel_rfl
@[simp] theorem tagg53 : tagg Tryd.prog 53 = some false := by kernel_rfl
@[simp] theorem tzero53 : tzero Tryd.prog 53 = some (Go.Abs.AV.slice none 0 0 none) := by kernel_rfl
@[simp] theorem isStrT53 : isStrT Tryd.prog 53 = false := by kernel_rfl
@[simp] theorem bytesT53 : bytesT Tryd.prog 53 = false := by kernel_rfl
@[simp] theorem elemT53 : elemT Tryd.prog 53 = some 4 := by kernel_rfl
@[simp] theorem isSliceT53 : isSliceT Tryd.prog 53 = true := by kernel_rfl
@[simp] theorem elemS53 : elemS Tryd.prog 53 = some 1 := by kernel_rfl
@[simp] theorem elemF53 : elemF Tryd.prog 53 = some (4, 1, 1, [Go.Abs.AV.bool false]) := by kernel_rfl
@[simp] theorem tsz56 : tsz Tryd.prog 56 = some 1 := by kernel_rfl
@[simp] theorem tbytes56 : tbytes Tryd.prog 56 = some 8 := by kernel_rfl
@[simp] theorem tagg56 : tagg Tryd.prog 56 = some false := by kernel_rfl
@[simp] theorem tzero56 : tzero Tryd.prog 56 = some (Go.Abs.AV.int Go.IntKind.u64 0) := by kernel_rfl
@[simp] theorem intT56 : intT Tryd.prog 56 = some .u64 := by kernel_rfl
@[simp] theorem tsz61 : tsz Tryd.prog 61 = some 1 := by kernel_rfl
@[simp] theorem tbytes61 : tbytes Tryd.prog 61 = some 8 := by kernel_rfl
@[simp] theorem tagg61 : tagg Tryd.prog 61 = some false := by kernel_rfl
@[simp] theorem tzero61 : tzero Tryd.prog 61 = some (Go.Abs.AV.ptr none) := by kernel_rfl
@[simp] theorem isPtrT61 : isPtrT Tryd.prog 61 = true := by kernel_rfl
@[simp] theorem tsz62 : tsz Tryd.prog 62 = some 1 := by kernel_rfl
@[simp] theorem tbytes62 : tbytes Tryd.prog 62 = some 24 := by kernel_rfl
@[simp] theorem tagg62 : tagg Tryd.prog 62 = some false := by kernel_rfl
@[simp] theorem tzero62 : tzero Tryd.prog 62 = some (Go.Abs.AV.slice none 0 0 none) := by kernel_rfl
@[simp] theorem isStrT62 : isStrT Tryd.prog 62 = false := by kernel_rfl
@[simp] theorem bytesT62 : bytesT Tryd.prog 62 = true := by kernel_rfl
@[simp] theorem elemT62 : elemT Tryd.prog 62 = some 5 := by kernel_rfl
@[simp] theorem isSliceT62 : isSliceT Tryd.prog 62 = true := by kernel_rfl
@[simp] theorem elemS62 : elemS Tryd.prog 62 = some 1 := by kernel_rfl
@[simp] theorem elemF62 : elemF Tryd.prog 62 = some (5, 1, 1, [Go.Abs.AV.int Go.IntKind.u8 0]) := by kernel_rfl
@[simp] theorem tsz63 : tsz Tryd.prog 63 = some 2 := by kernel_rfl
@[simp] theorem tbytes63 : tbytes Tryd.prog 63 = some 32 := by kernel_rfl
@[simp] theorem tagg63 : tagg Tryd.prog 63 = some true := by kernel_rfl
@[simp] theorem tzero63 : tzero Tryd.prog 63 = some (Go.Abs.AV.agg [Go.Abs.AV.ptr none, Go.Abs.AV.slice none 0 0 none]) := by kernel_rfl
@[simp] theorem tsz64 : tsz Tryd.prog 64 = some 2 := by kernel_rfl
@[simp] theorem tbytes64 : tbytes Tryd.prog 64 = some 32 := by kernel_rfl
@[simp] theorem tagg64 : tagg Tryd.prog 64 = some true := by kernel_rfl
@[simp] theorem tzero64 : tzero Tryd.prog 64 = some (Go.Abs.AV.agg [Go.Abs.AV.ptr none, Go.Abs.AV.slice none 0 0 none]) := by kernel_rfl
@[simp] theorem tsz67 : tsz Tryd.prog 67 = some 1 := by kernel_rfl
@[simp] theorem tbytes67 : tbytes Tryd.prog 67 = some 16 := by kernel_rfl
@[simp] theorem tagg67 : tagg Tryd.prog 67 = some false := by kernel_rfl
@[simp] theorem tzero67 : tzero Tryd.prog 67 = some Go.Abs.AV.nilIface := by kernel_rfl
@[simp] theorem tsz74 : tsz Tryd.prog 74 = some 256 := by kernel_rfl
@[simp] theorem tbytes74 : tbytes Tryd.prog 74 = some 256 := by kernel_rfl
@[simp] theorem tagg74 : tagg Tryd.prog 74 = some true := by kernel_rfl
@[simp] theorem tzero74 : tzero Tryd.prog 74 = some (.agg (cellsOfBytes (zeroB 256))) := by kernel_rfl
@[simp] theorem isArrT74 : isArrT Tryd.prog 74 = some 256 := by kernel_rfl
@[simp] theorem elemA74 : elemA Tryd.prog 74 = some (256, 1) := by kernel_rfl
@[simp] theorem tsz77 : tsz Tryd.prog 77 = some 1 := by kernel_rfl
@[simp] theorem tbytes77 : tbytes Tryd.prog 77 = some 8 := by kernel_rfl
@[simp] theorem tagg77 : tagg Tryd.prog 77 = some false := by kernel_rfl
@[simp] theorem tzero77 : tzero Tryd.prog 77 = some (Go.Abs.AV.ptr none) := by kernel_rfl
@[simp] theorem isPtrT77 : isPtrT Tryd.prog 77 = true := by kernel_rfl
@[simp] theorem tsz78 : tsz Tryd.prog 78 = some 1 := by kernel_rfl
@[simp] theorem tbytes78 : tbytes Tryd.prog 78 = some 24 := by kernel_rfl
@[simp] theorem tagg78 : tagg Tryd.prog 78 = some false := by kernel_rfl
@[simp] theorem tzero78 : tzero Tryd.prog 78 = some (Go.Abs.AV.slice none 0 0 none) := by kernel_rfl
@[simp] theorem isStrT78 : isStrT Tryd.prog 78 = false := by kernel_rfl
@[simp] theorem bytesT78 : bytesT Tryd.prog 78 = false := by kernel_rfl
@[simp] theorem elemT78 : elemT Tryd.prog 78 = some 80 := by kernel_rfl
@[simp] theorem isSliceT78 : isSliceT Tryd.prog 78 = true := by kernel_rfl
@[simp] theorem elemS78 : elemS Tryd.prog 78 = some 2 := by kernel_rfl
@[simp] theorem elemF78 : elemF Tryd.prog 78 = some (80, 16, 2, [Go.Abs.AV.int Go.IntKind.i64 0, Go.Abs.AV.int Go.IntKind.i64 0]) := by kernel_rfl
@[simp] theorem tsz79 : tsz Tryd.prog 79 = some 2 := by kernel_rfl
@[simp] theorem tbytes79 : tbytes Tryd.prog 79 = some 16 := by kernel_rfl
@[simp] theorem tagg79 : tagg Tryd.prog 79 = some true := by kernel_rfl
@[simp] theorem tzero79 : tzero Tryd.prog 79 = some (Go.Abs.AV.agg [Go.Abs.AV.int Go.IntKind.i64 0, Go.Abs.AV.int Go.IntKind.i64 0]) := by kernel_rfl
@[simp] theorem tsz80 : tsz Tryd.prog 80 = some 2 := by kernel_rfl
@[simp] theorem tbytes80 : tbytes Tryd.prog 80 = some 16 := by kernel_rfl
@[simp] theorem tagg80 : tagg Tryd.prog 80 = some true := by kernel_rfl
@[simp] theorem tzero80 : tzero Tryd.prog 80 = some (Go.Abs.AV.agg [Go.Abs.AV.int Go.IntKind.i64 0, Go.Abs.AV.int Go.IntKind.i64 0]) := by kernel_rfl
@[simp] theorem tsz82 : tsz Tryd.prog 82 = some 1 := by kernel_rfl
@[simp] theorem tbytes82 : tbytes Tryd.prog 82 = some 8 := by kernel_rfl
@[simp] theorem tagg82 : tagg Tryd.prog 82 = some false := by kernel_rfl
@[simp] theorem tzero82 : tzero Tryd.prog 82 = some (Go.Abs.AV.ptr none) := by kernel_rfl
@[simp] theorem isPtrT82 : isPtrT Tryd.prog 82 = true := by kernel_rfl
@[simp] theorem tsz83 : tsz Tryd.prog 83 = some 1 := by kernel_rfl
@[simp] theorem tbytes83 : tbytes Tryd.prog 83 = some 8 := by kernel_rfl
@[simp] theorem tagg83 : tagg Tryd.prog 83 = some false := by kernel_rfl
@[simp] theorem tzero83 : tzero Tryd.prog 83 = some (Go.Abs.AV.ptr none) := by kernel_rfl
@[simp] theorem tsz86 : tsz Tryd.prog 86 = some 2 := by kernel_rfl
@[simp] theorem tbytes86 : tbytes Tryd.prog 86 = some 2 := by kernel_rfl
@[simp] theorem tagg86 : tagg Tryd.prog 86 = some true := by kernel_rfl
@[simp] theorem tzero86 : tzero Tryd.prog 86 = some (Go.Abs.AV.agg [Go.Abs.AV.int Go.IntKind.u8 0, Go.Abs.AV.int Go.IntKind.u8 0]) := by kernel_rfl
@[simp] theorem tsz87 : tsz Tryd.prog 87 = some 2 := by kernel_rfl
@[simp] theorem tbytes87 : tbytes Tryd.prog 87 = some 2 := by kernel_rfl
@[simp] theorem tagg87 : tagg Tryd.prog 87 = some true := by kernel_rfl
@[simp] theorem tzero87 : tzero Tryd.prog 87 = some (Go.Abs.AV.agg [Go.Abs.AV.int Go.IntKind.u8 0, Go.Abs.AV.int Go.IntKind.u8 0]) := by kernel_rfl
@[simp] theorem tsz88 : tsz Tryd.prog 88 = some 32 := by kernel_rfl
@[simp] theorem tbytes88 : tbytes Tryd.prog 88 = some 32 := by kernel_rfl
@[simp] theorem tagg88 : tagg Tryd.prog 88 = some true := by kernel_rfl
@[simp] theorem tzero88 : tzero Tryd.prog 88 = some (Go.Abs.AV.agg [Go.Abs.AV.int Go.IntKind.u8 0, Go.Abs.AV.int Go.IntKind.u8 0, Go.Abs.AV.int Go.IntKind.u8 0, Go.Abs.AV.int Go.IntKind.u8 0, Go.Abs.AV.int Go.IntKind.u8 0, Go.Abs.AV.int Go.IntKind.u8 0, Go.Abs.AV.int Go.IntKind.u8 0, Go.Abs.AV.int Go.IntKind.u8 0, Go.Abs.AV.int Go.IntKind.u8 0, Go.Abs.AV.int Go.IntKind.u8 0, Go.Abs.AV.int Go.IntKind.u8 0, Go.Abs.AV.int Go.IntKind.u8 0, Go.Abs.AV.int Go.IntKind.u8 0, Go.Abs.AV.int Go.IntKind.u8 0, Go.Abs.AV.int Go.IntKind.u8 0, Go.Abs.AV.int Go.IntKind.u8 0, Go.Abs.AV.int Go.IntKind.u8 0, Go.Abs.AV.int Go.IntKind.u8 0, Go.Abs.AV.int Go.IntKind.u8 0, Go.Abs.AV.int Go.IntKind.u8 0, Go.Abs.AV.int Go.IntKind.u8 0, Go.Abs.AV.int Go.IntKind.u8 0, Go.Abs.AV.int Go.IntKind.u8 0, Go.Abs.AV.int Go.IntKind.u8 0, Go.Abs.AV.int Go.IntKind.u8 0, Go.Abs.AV.int Go.IntKind.u8 0, Go.Abs.AV.int Go.IntKind.u8 0, Go.Abs.AV.int Go.IntKind.u8 0, Go.Abs.AV.int Go.IntKind.u8 0, Go.Abs.AV.int Go.IntKind.u8 0, Go.Abs.AV.int Go.IntKind.u8 0, Go.Abs.AV.int Go.IntKind.u8 0]) := by kernel_rfl
@[simp] theorem isArrT88 : isArrT Tryd.prog 88 = some 16 := by kernel_rfl
@[simp] theorem elemA88 : elemA Tryd.prog 88 = some (16, 2) := by kernel_rfl
@[simp] theorem tsz91 : tsz Tryd.prog 91 = some 1 := by kernel_rfl
@[simp] theorem tbytes91 : tbytes Tryd.prog 91 = some 24 := by kernel_rfl
@[simp] theorem tagg91 : tagg Tryd.prog 91 = some false := by kernel_rfl
@[simp] theorem tzero91 : tzero Tryd.prog 91 = some (Go.Abs.AV.slice none 0 0 none) := by kernel_rfl
@[simp] theorem isStrT91 : isStrT Tryd.prog 91 = false := by kernel_rfl
@[simp] theorem bytesT91 : bytesT Tryd.prog 91 = false := by kernel_rfl
@[simp] theorem elemT91 : elemT Tryd.prog 91 = some 97 := by kernel_rfl
@[simp] theorem isSliceT91 : isSliceT Tryd.prog 91 = true := by kernel_rfl
@[simp] theorem elemS91 : elemS Tryd.prog 91 = some 3 := by kernel_rfl
@[simp] theorem elemF91 : elemF Tryd.prog 91 = some (97, 6, 3, [Go.Abs.AV.int Go.IntKind.u16 0, Go.Abs.AV.int Go.IntKind.u16 0, Go.Abs.AV.int Go.IntKind.u16 0]) := by kernel_rfl
@[simp] theorem tsz92 : tsz Tryd.prog 92 = some 1 := by kernel_rfl
@[simp] theorem tbytes92 : tbytes Tryd.prog 92 = some 24 := by kernel_rfl
@[simp] theorem tagg92 : tagg Tryd.prog 92 = some false := by kernel_rfl
@[simp] theorem tzero92 : tzero Tryd.prog 92 = some (Go.Abs.AV.slice none 0 0 none) := by kernel_rfl
@[simp] theorem isStrT92 : isStrT Tryd.prog 92 = false := by kernel_rfl
@[simp] theorem bytesT92 : bytesT Tryd.prog 92 = false := by kernel_rfl
@[simp] theorem elemT92 : elemT Tryd.prog 92 = some 100 := by kernel_rfl
@[simp] theorem isSliceT92 : isSliceT Tryd.prog 92 = true := by kernel_rfl
@[simp] theorem elemS92 : elemS Tryd.prog 92 = some 3 := by kernel_rfl
@[simp] theorem elemF92 : elemF Tryd.prog 92 = some (100, 12, 3, [Go.Abs.AV.int Go.IntKind.u32 0, Go.Abs.AV.int Go.IntKind.u32 0, Go.Abs.AV.int Go.IntKind.u32 0]) := by kernel_rfl
@[simp] theorem tsz93 : tsz Tryd.prog 93 = some 3 := by kernel_rfl
@[simp] theorem tbytes93 : tbytes Tryd.prog 93 = some 56 := by kernel_rfl
@[simp] theorem tagg93 : tagg Tryd.prog 93 = some true := by kernel_rfl
@[simp] theorem tzero93 : tzero Tryd.prog 93 = some (Go.Abs.AV.agg [Go.Abs.AV.slice none 0 0 none, Go.Abs.AV.slice none 0 0 none, Go.Abs.AV.int Go.IntKind.i64 0]) := by kernel_rfl
@[simp] theorem tsz94 : tsz Tryd.prog 94 = some 3 := by kernel_rfl
@[simp] theorem tbytes94 : tbytes Tryd.prog 94 = some 56 := by kernel_rfl
@[simp] theorem tagg94 : tagg Tryd.prog 94 = some true := by kernel_rfl
@[simp] theorem tzero94 : tzero Tryd.prog 94 = some (Go.Abs.AV.agg [Go.Abs.AV.slice none 0 0 none, Go.Abs.AV.slice none 0 0 none, Go.Abs.AV.int Go.IntKind.i64 0]) := by kernel_rfl
@[simp] theorem tsz95 : tsz Tryd.prog 95 = some 1 := by kernel_rfl
@[simp] theorem tbytes95 : tbytes Tryd.prog 95 = some 2 := by kernel_rfl
@[simp] theorem tagg95 : tagg Tryd.prog 95 = some false := by kernel_rfl
@[simp] theorem tzero95 : tzero Tryd.prog 95 = some (Go.Abs.AV.int Go.IntKind.u16 0) := by kernel_rfl
@[simp] theorem intT95 : intT Tryd.prog 95 = some .u16 := by kernel_rfl
@[simp] theorem tsz96 : tsz Tryd.prog 96 = some 3 := by kernel_rfl
@[simp] theorem tbytes96 : tbytes Tryd.prog 96 = some 6 := by kernel_rfl
@[simp] theorem tagg96 : tagg Tryd.prog 96 = some true := by kernel_rfl
@[simp] theorem tzero96 : tzero Tryd.prog 96 = some (Go.Abs.AV.agg [Go.Abs.AV.int Go.IntKind.u16 0, Go.Abs.AV.int Go.IntKind.u16 0, Go.Abs.AV.int Go.IntKind.u16 0]) := by kernel_rfl
@[simp] theorem tsz97 : tsz Tryd.prog 97 = some 3 := by kernel_rfl
@[simp] theorem tbytes97 : tbytes Tryd.prog 97 = some 6 := by kernel_rfl
@[simp] theorem tagg97 : tagg Tryd.prog 97 = some true := by kernel_rfl
@[simp] theorem tzero97 : tzero Tryd.prog 97 = some (Go.Abs.AV.agg [Go.Abs.AV.int Go.IntKind.u16 0, Go.Abs.AV.int Go.IntKind.u16 0, Go.Abs.AV.int Go.IntKind.u16 0]) := by kernel_rfl
@[simp] theorem tsz99 : tsz Tryd.prog 99 = some 3 := by kernel_rfl
@[simp] theorem tbytes99 : tbytes Tryd.prog 99 = some 12 := by kernel_rfl
@[simp] theorem tagg99 : tagg Tryd.prog 99 = some true := by kernel_rfl
@[simp] theorem tzero99 : tzero Tryd.prog 99 = some (Go.Abs.AV.agg [Go.Abs.AV.int Go.IntKind.u32 0, Go.Abs.AV.int Go.IntKind.u32 0, Go.Abs.AV.int Go.IntKind.u32 0]) := by kernel_rfl
@[simp] theorem tsz100 : tsz Tryd.prog 100 = some 3 := by kernel_rfl
@[simp] theorem tbytes100 : tbytes Tryd.prog 100 = some 12 := by kernel_rfl
@[simp] theorem tagg100 : tagg Tryd.prog 100 = some true := by kernel_rfl
@[simp] theorem tzero100 : tzero Tryd.prog 100 = some (Go.Abs.AV.agg [Go.Abs.AV.int Go.IntKind.u32 0, Go.Abs.AV.int Go.IntKind.u32 0, Go.Abs.AV.int Go.IntKind.u32 0]) := by kernel_rfl
@[simp] theorem tsz104 : tsz Tryd.prog 104 = some 1 := by kernel_rfl
@[simp] theorem tbytes104 : tbytes Tryd.prog 104 = some 8 := by kernel_rfl
@[simp] theorem tagg104 : tagg Tryd.prog 104 = some false := by kernel_rfl
@[simp] theorem tzero104 : tzero Tryd.prog 104 = some (Go.Abs.AV.ptr none) := by kernel_rfl
@[simp] theorem isPtrT104 : isPtrT Tryd.prog 104 = true := by kernel_rfl
@[simp] theorem tsz105 : tsz Tryd.prog 105 = some 1 := by kernel_rfl
@[simp] theorem tbytes105 : tbytes Tryd.prog 105 = some 8 := by kernel_rfl
@[simp] theorem tagg105 : tagg Tryd.prog 105 = some false := by kernel_rfl
@[simp] theorem tzero105 : tzero Tryd.prog 105 = some (Go.Abs.AV.ptr none) := by kernel_rfl
@[simp] theorem isPtrT105 : isPtrT Tryd.prog 105 = true := by kernel_rfl
@[simp] theorem tsz106 : tsz Tryd.prog 106 = some 4 := by kernel_rfl
@[simp] theorem tbytes106 : tbytes Tryd.prog 106 = some 40 := by kernel_rfl
@[simp] theorem tagg106 : tagg Tryd.prog 106 = some true := by kernel_rfl
@[simp] theorem tzero106 : tzero Tryd.prog 106 = some (Go.Abs.AV.agg [Go.Abs.AV.ptr none, Go.Abs.AV.ptr none, Go.Abs.AV.ptr none, Go.Abs.AV.str []]) := by kernel_rfl
@[simp] theorem tsz107 : tsz Tryd.prog 107 = some 4 := by kernel_rfl
@[simp] theorem tbytes107 : tbytes Tryd.prog 107 = some 40 := by kernel_rfl
@[simp] theorem tagg107 : tagg Tryd.prog 107 = some true := by kernel_rfl
@[simp] theorem tzero107 : tzero Tryd.prog 107 = some (Go.Abs.AV.agg [Go.Abs.AV.ptr none, Go.Abs.AV.ptr none, Go.Abs.AV.ptr none, Go.Abs.AV.str []]) := by kernel_rfl
@[simp] theorem tsz108 : tsz Tryd.prog 108 = some 0 := by kernel_rfl
@[simp] theorem tbytes108 : tbytes Tryd.prog 108 = some 0 := by kernel_rfl
@[simp] theorem tagg108 : tagg Tryd.prog 108 = some true := by kernel_rfl
@[simp] theorem tzero108 : tzero Tryd.prog 108 = some (Go.Abs.AV.agg []) := by kernel_rfl
@[simp] theorem isArrT108 : isArrT Tryd.prog 108 = some 0 := by kernel_rfl
@[simp] theorem elemA108 : elemA Tryd.prog 108 = some (0, 1) := by kernel_rfl
@[simp] theorem tsz109 : tsz Tryd.prog 109 = some 0 := by kernel_rfl
@[simp] theorem tbytes109 : tbytes Tryd.prog 109 = some 0 := by kernel_rfl
@[simp] theorem tagg109 : tagg Tryd.prog 109 = some true := by kernel_rfl
@[simp] theorem tzero109 : tzero Tryd.prog 109 = some (Go.Abs.AV.agg []) := by kernel_rfl
@[simp] theorem tsz110 : tsz Tryd.prog 110 = some 0 := by kernel_rfl
@[simp] theorem tbytes110 : tbytes Tryd.prog 110 = some 0 := by kernel_rfl
@[simp] theorem tagg110 : tagg Tryd.prog 110 = some true := by kernel_rfl
@[simp] theorem tzero110 : tzero Tryd.prog 110 = some (Go.Abs.AV.agg []) := by kernel_rfl
@[simp] theorem tsz112 : tsz Tryd.prog 112 = some 1 := by kernel_rfl
@[simp] theorem tbytes112 : tbytes Tryd.prog 112 = some 1 := by kernel_rfl
@[simp] theorem tagg112 : tagg Tryd.prog 112 = some false := by kernel_rfl
@[simp] theorem tzero112 : tzero Tryd.prog 112 = some (Go.Abs.AV.int Go.IntKind.u8 0) := by kernel_rfl
@[simp] theorem intT112 : intT Tryd.prog 112 = some .u8 := by kernel_rfl
@[simp] theorem tsz113 : tsz Tryd.prog 113 = some 1 := by kernel_rfl
@[simp] theorem tbytes113 : tbytes Tryd.prog 113 = some 1 := by kernel_rfl
@[simp] theorem tagg113 : tagg Tryd.prog 113 = some false := by kernel_rfl
@[simp] theorem tzero113 : tzero Tryd.prog 113 = some (Go.Abs.AV.int Go.IntKind.u8 0) := by kernel_rfl
@[simp] theorem intT113 : intT Tryd.prog 113 = some .u8 := by kernel_rfl
@[simp] theorem tsz115 : tsz Tryd.prog 115 = some 1 := by kernel_rfl
@[simp] theorem tbytes115 : tbytes Tryd.prog 115 = some 4 := by kernel_rfl
@[simp] theorem tagg115 : tagg Tryd.prog 115 = some false := by kernel_rfl
@[simp] theorem tzero115 : tzero Tryd.prog 115 = some (Go.Abs.AV.int Go.IntKind.i32 0) := by kernel_rfl
@[simp] theorem intT115 : intT Tryd.prog 115 = some .i32 := by kernel_rfl
@[simp] theorem tsz116 : tsz Tryd.prog 116 = some 1 := by kernel_rfl
@[simp] theorem tbytes116 : tbytes Tryd.prog 116 = some 4 := by kernel_rfl
@[simp] theorem tagg116 : tagg Tryd.prog 116 = some false := by kernel_rfl
@[simp] theorem tzero116 : tzero Tryd.prog 116 = some (Go.Abs.AV.int Go.IntKind.i32 0) := by kernel_rfl
@[simp] theorem intT116 : intT Tryd.prog 116 = some .i32 := by kernel_rfl
@[simp] theorem tsz117 : tsz Tryd.prog 117 = some 11 := by kernel_rfl
@[simp] theorem tbytes117 : tbytes Tryd.prog 117 = some 48 := by kernel_rfl
@[simp] theorem tagg117 : tagg Tryd.prog 117 = some true := by kernel_rfl
@[simp] theorem tzero117 : tzero Tryd.prog 117 = some (Go.Abs.AV.agg [Go.Abs.AV.int Go.IntKind.u64 0, Go.Abs.AV.int Go.IntKind.u64 0, Go.Abs.AV.int Go.IntKind.u32 0, Go.Abs.AV.int Go.IntKind.u8 0, Go.Abs.AV.int Go.IntKind.u8 0, Go.Abs.AV.int Go.IntKind.u8 0, Go.Abs.AV.int Go.IntKind.u8 0, Go.Abs.AV.nilFunc, Go.Abs.AV.ptr none, Go.Abs.AV.int Go.IntKind.i32 0, Go.Abs.AV.int Go.IntKind.i32 0]) := by kernel_rfl
@[simp] theorem tsz118 : tsz Tryd.prog 118 = some 11 := by kernel_rfl
@[simp] theorem tbytes118 : tbytes Tryd.prog 118 = some 48 := by kernel_rfl
@[simp] theorem tagg118 : tagg Tryd.prog 118 = some true := by kernel_rfl
@[simp] theorem tzero118 : tzero Tryd.prog 118 = some (Go.Abs.AV.agg [Go.Abs.AV.int Go.IntKind.u64 0, Go.Abs.AV.int Go.IntKind.u64 0, Go.Abs.AV.int Go.IntKind.u32 0, Go.Abs.AV.int Go.IntKind.u8 0, Go.Abs.AV.int Go.IntKind.u8 0, Go.Abs.AV.int Go.IntKind.u8 0, Go.Abs.AV.int Go.IntKind.u8 0, Go.Abs.AV.nilFunc, Go.Abs.AV.ptr none, Go.Abs.AV.int Go.IntKind.i32 0, Go.Abs.AV.int Go.IntKind.i32 0]) := by kernel_rfl

end Go.Abs
