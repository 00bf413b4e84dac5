/- Texts on this program, joined. -/
import Derived.Test.YtfebefhibgpmjaaDoorKit04
import Derived.Test.YtfebefhibgpmjaaDoorProg
import Derived.KernelRfl

/- The sizes, zero values and kinds of the types of this seat's program, for the walks. -/
namespace Go.Abs
set_option linter.unusedVariables false
open Go.Proofs
set_option maxRecDepth 100000

@[simp] theorem tsz2 : tsz Tryd.prog 2 = some 1 := by kernel_rfl
@[simp] theorem tbytes2 : tbytes Tryd.prog 2 = some 8 := by kernel_rfl
@[simp] theorem tagg2 : tagg Tryd.prog 2 = some false := by kernel_rfl
@[simp] theorem tzero2 : tzero Tryd.prog 2 = some (Go.Abs.AV.int Go.IntKind.i64 0) := by kernel_rfl
@[simp] theorem intT2 : intT Tryd.prog 2 = some .i64 := by kernel_rfl
@[simp] theorem tsz3 : tsz Tryd.prog 3 = some 1 := by kernel_rfl
@[simp] theorem tbytes3 : tbytes Tryd.prog 3 = some 8 := by kernel_rfl
@[simp] theorem tagg3 : tagg Tryd.prog 3 = some false := by kernel_rfl
@[simp] theorem tzero3 : tzero Tryd.prog 3 = some (Go.Abs.AV.int Go.IntKind.i64 0) := by kernel_rfl
@[simp] theorem intT3 : intT Tryd.prog 3 = some .i64 := by kernel_rfl
@[simp] theorem tsz4 : tsz Tryd.prog 4 = some 1 := by kernel_rfl
@[simp] theorem tbytes4 : tbytes Tryd.prog 4 = some 1 := by kernel_rfl
@[simp] theorem tagg4 : tagg Tryd.prog 4 = some false := by kernel_rfl
@[simp] theorem tzero4 : tzero Tryd.prog 4 = some (Go.Abs.AV.bool false) := by kernel_rfl
@[simp] theorem isBoolT4 : isBoolT Tryd.prog 4 = true := by kernel_rfl
@[simp] theorem tsz5 : tsz Tryd.prog 5 = some 1 := by kernel_rfl
@[simp] theorem tbytes5 : tbytes Tryd.prog 5 = some 1 := by kernel_rfl
@[simp] theorem tagg5 : tagg Tryd.prog 5 = some false := by kernel_rfl
@[simp] theorem tzero5 : tzero Tryd.prog 5 = some (Go.Abs.AV.int Go.IntKind.u8 0) := by kernel_rfl
@[simp] theorem intT5 : intT Tryd.prog 5 = some .u8 := by kernel_rfl
@[simp] theorem tsz6 : tsz Tryd.prog 6 = some 1 := by kernel_rfl
@[simp] theorem tbytes6 : tbytes Tryd.prog 6 = some 1 := by kernel_rfl
@[simp] theorem tagg6 : tagg Tryd.prog 6 = some false := by kernel_rfl
@[simp] theorem tzero6 : tzero Tryd.prog 6 = some (Go.Abs.AV.int Go.IntKind.u8 0) := by kernel_rfl
@[simp] theorem intT6 : intT Tryd.prog 6 = some .u8 := by kernel_rfl
@[simp] theorem tsz7 : tsz Tryd.prog 7 = some 4 := by kernel_rfl
@[simp] theorem tbytes7 : tbytes Tryd.prog 7 = some 24 := by kernel_rfl
@[simp] theorem tagg7 : tagg Tryd.prog 7 = some true := by kernel_rfl
@[simp] theorem tzero7 : tzero Tryd.prog 7 = some (Go.Abs.AV.agg [Go.Abs.AV.int Go.IntKind.i64 0, Go.Abs.AV.int Go.IntKind.i64 0, Go.Abs.AV.bool false, Go.Abs.AV.int Go.IntKind.u8 0]) := by kernel_rfl
@[simp] theorem tsz8 : tsz Tryd.prog 8 = some 4 := by kernel_rfl
@[simp] theorem tbytes8 : tbytes Tryd.prog 8 = some 24 := by kernel_rfl
@[simp] theorem tagg8 : tagg Tryd.prog 8 = some true := by kernel_rfl
@[simp] theorem tzero8 : tzero Tryd.prog 8 = some (Go.Abs.AV.agg [Go.Abs.AV.int Go.IntKind.i64 0, Go.Abs.AV.int Go.IntKind.i64 0, Go.Abs.AV.bool false, Go.Abs.AV.int Go.IntKind.u8 0]) := by kernel_rfl
@[simp] theorem tsz9 : tsz Tryd.prog 9 = some 1 := by kernel_rfl
@[simp] theorem tbytes9 : tbytes Tryd.prog 9 = some 16 := by kernel_rfl
@[simp] theorem tagg9 : tagg Tryd.prog 9 = some false := by kernel_rfl
@[simp] theorem tzero9 : tzero Tryd.prog 9 = some (Go.Abs.AV.str []) := by kernel_rfl
@[simp] theorem isStrT9 : isStrT Tryd.prog 9 = true := by kernel_rfl
@[simp] theorem bytesT9 : bytesT Tryd.prog 9 = false := by kernel_rfl
@[simp] theorem tsz10 : tsz Tryd.prog 10 = some 1 := by kernel_rfl
@[simp] theorem tbytes10 : tbytes Tryd.prog 10 = some 16 := by kernel_rfl
@[simp] theorem tagg10 : tagg Tryd.prog 10 = some false := by kernel_rfl
@[simp] theorem tzero10 : tzero Tryd.prog 10 = some (Go.Abs.AV.str []) := by kernel_rfl
@[simp] theorem isStrT10 : isStrT Tryd.prog 10 = true := by kernel_rfl
@[simp] theorem bytesT10 : bytesT Tryd.prog 10 = false := by kernel_rfl
@[simp] theorem tsz11 : tsz Tryd.prog 11 = some 1 := by kernel_rfl
@[simp] theorem tbytes11 : tbytes Tryd.prog 11 = some 16 := by kernel_rfl
@[simp] theorem tagg11 : tagg Tryd.prog 11 = some false := by kernel_rfl
@[simp] theorem tzero11 : tzero Tryd.prog 11 = some (Go.Abs.AV.str []) := by kernel_rfl
@[simp] theorem isStrT11 : isStrT Tryd.prog 11 = true := by kernel_rfl
@[simp] theorem bytesT11 : bytesT Tryd.prog 11 = false := by kernel_rfl
@[simp] theorem tsz12 : tsz Tryd.prog 12 = some 1 := by kernel_rfl
@[simp] theorem tbytes12 : tbytes Tryd.prog 12 = some 8 := by kernel_rfl
@[simp] theorem tagg12 : tagg Tryd.prog 12 = some false := by kernel_rfl
@[simp] theorem tzero12 : tzero Tryd.prog 12 = some (Go.Abs.AV.int Go.IntKind.u64 0) := by kernel_rfl
@[simp] theorem intT12 : intT Tryd.prog 12 = some .u64 := by kernel_rfl
@[simp] theorem tsz13 : tsz Tryd.prog 13 = some 2 := by kernel_rfl
@[simp] theorem tbytes13 : tbytes Tryd.prog 13 = some 24 := by kernel_rfl
@[simp] theorem tagg13 : tagg Tryd.prog 13 = some true := by kernel_rfl
@[simp] theorem tzero13 : tzero Tryd.prog 13 = some (Go.Abs.AV.agg [Go.Abs.AV.str [], Go.Abs.AV.int Go.IntKind.u64 0]) := by kernel_rfl
@[simp] theorem tsz14 : tsz Tryd.prog 14 = some 2 := by kernel_rfl
@[simp] theorem tbytes14 : tbytes Tryd.prog 14 = some 24 := by kernel_rfl
@[simp] theorem tagg14 : tagg Tryd.prog 14 = some true := by kernel_rfl
@[simp] theorem tzero14 : tzero Tryd.prog 14 = some (Go.Abs.AV.agg [Go.Abs.AV.str [], Go.Abs.AV.int Go.IntKind.u64 0]) := by kernel_rfl
@[simp] theorem tsz15 : tsz Tryd.prog 15 = some 1 := by kernel_rfl
@[simp] theorem tbytes15 : tbytes Tryd.prog 15 = some 8 := by kernel_rfl
@[simp] theorem tagg15 : tagg Tryd.prog 15 = some false := by kernel_rfl
@[simp] theorem tzero15 : tzero Tryd.prog 15 = some (Go.Abs.AV.ptr none) := by kernel_rfl
@[simp] theorem isPtrT15 : isPtrT Tryd.prog 15 = true := by kernel_rfl
@[simp] theorem tsz16 : tsz Tryd.prog 16 = some 1 := by kernel_rfl
@[simp] theorem tbytes16 : tbytes Tryd.prog 16 = some 8 := by kernel_rfl
@[simp] theorem tagg16 : tagg Tryd.prog 16 = some false := by kernel_rfl
@[simp] theorem tzero16 : tzero Tryd.prog 16 = some (Go.Abs.AV.ptr none) := by kernel_rfl
@[simp] theorem isPtrT16 : isPtrT Tryd.prog 16 = true := by kernel_rfl
@[simp] theorem tsz17 : tsz Tryd.prog 17 = some 1 := by kernel_rfl
@[simp] theorem tbytes17 : tbytes Tryd.prog 17 = some 8 := by kernel_rfl
@[simp] theorem tagg17 : tagg Tryd.prog 17 = some false := by kernel_rfl
@[simp] theorem tzero17 : tzero Tryd.prog 17 = some (Go.Abs.AV.ptr none) := by kernel_rfl
@[simp] theorem isPtrT17 : isPtrT Tryd.prog 17 = true := by kernel_rfl
@[simp] theorem tsz18 : tsz Tryd.prog 18 = some 1 := by kernel_rfl
@[simp] theorem tbytes18 : tbytes Tryd.prog 18 = some 8 := by kernel_rfl
@[simp] theorem tagg18 : tagg Tryd.prog 18 = some true := by kernel_rfl
@[simp] theorem tzero18 : tzero Tryd.prog 18 = some (Go.Abs.AV.agg [Go.Abs.AV.ptr none]) := by kernel_rfl
@[simp] theorem tsz19 : tsz Tryd.prog 19 = some 1 := by kernel_rfl
@[simp] theorem tbytes19 : tbytes Tryd.prog 19 = some 8 := by kernel_rfl
@[simp] theorem tagg19 : tagg Tryd.prog 19 = some true := by kernel_rfl
@[simp] theorem tzero19 : tzero Tryd.prog 19 = some (Go.Abs.AV.agg [Go.Abs.AV.ptr none]) := by kernel_rfl
@[simp] theorem tsz21 : tsz Tryd.prog 21 = some 1 := by kernel_rfl
@[simp] theorem tbytes21 : tbytes Tryd.prog 21 = some 4 := by kernel_rfl
@[simp] theorem tagg21 : tagg Tryd.prog 21 = some false := by kernel_rfl
@[simp] theorem tzero21 : tzero Tryd.prog 21 = some (Go.Abs.AV.int Go.IntKind.i32 0) := by kernel_rfl
@[simp] theorem intT21 : intT Tryd.prog 21 = some .i32 := by kernel_rfl
@[simp] theorem tsz22 : tsz Tryd.prog 22 = some 1 := by kernel_rfl
@[simp] theorem tbytes22 : tbytes Tryd.prog 22 = some 24 := by kernel_rfl
@[simp] theorem tagg22 : tagg Tryd.prog 22 = some false := by kernel_rfl
@[simp] theorem tzero22 : tzero Tryd.prog 22 = some (Go.Abs.AV.slice none 0 0 none) := by kernel_rfl
@[simp] theorem isStrT22 : isStrT Tryd.prog 22 = false := by kernel_rfl
@[simp] theorem bytesT22 : bytesT Tryd.prog 22 = false := by kernel_rfl
@[simp] theorem elemT22 : elemT Tryd.prog 22 = some 3 := by kernel_rfl
@[simp] theorem isSliceT22 : isSliceT Tryd.prog 22 = true := by kernel_rfl
@[simp] theorem elemS22 : elemS Tryd.prog 22 = some 1 := by kernel_rfl
@[simp] theorem elemF22 : elemF Tryd.prog 22 = some (3, 8, 1, [Go.Abs.AV.int Go.IntKind.i64 0]) := by kernel_rfl
@[simp] theorem tsz23 : tsz Tryd.prog 23 = some 2 := by kernel_rfl
@[simp] theorem tbytes23 : tbytes Tryd.prog 23 = some 32 := by kernel_rfl
@[simp] theorem tagg23 : tagg Tryd.prog 23 = some true := by kernel_rfl
@[simp] theorem tzero23 : tzero Tryd.prog 23 = some (Go.Abs.AV.agg [Go.Abs.AV.bool false, Go.Abs.AV.slice none 0 0 none]) := by kernel_rfl
@[simp] theorem tsz24 : tsz Tryd.prog 24 = some 2 := by kernel_rfl
@[simp] theorem tbytes24 : tbytes Tryd.prog 24 = some 32 := by kernel_rfl
@[simp] theorem tagg24 : tagg Tryd.prog 24 = some true := by kernel_rfl
@[simp] theorem tzero24 : tzero Tryd.prog 24 = some (Go.Abs.AV.agg [Go.Abs.AV.bool false, Go.Abs.AV.slice none 0 0 none]) := by kernel_rfl
@[simp] theorem tsz32 : tsz Tryd.prog 32 = some 1 := by kernel_rfl
@[simp] theorem tbytes32 : tbytes Tryd.prog 32 = some 8 := by kernel_rfl
@[simp] theorem tagg32 : tagg Tryd.prog 32 = some false := by kernel_rfl
@[simp] theorem tzero32 : tzero Tryd.prog 32 = some (Go.Abs.AV.int Go.IntKind.i64 0) := by kernel_rfl
@[simp] theorem intT32 : intT Tryd.prog 32 = some .i64 := by kernel_rfl
@[simp] theorem tsz45 : tsz Tryd.prog 45 = some 1 := by kernel_rfl
@[simp] theorem tbytes45 : tbytes Tryd.prog 45 = some 24 := by kernel_rfl
@[simp] theorem tagg45 : tagg Tryd.prog 45 = some false := by kernel_rfl
@[simp] theorem tzero45 : tzero Tryd.prog 45 = some (Go.Abs.AV.slice none 0 0 none) := by kernel_rfl
@[simp] theorem isStrT45 : isStrT Tryd.prog 45 = false := by kernel_rfl
@[simp] theorem bytesT45 : bytesT Tryd.prog 45 = false := by kernel_rfl
@[simp] theorem elemT45 : elemT Tryd.prog 45 = some 9 := by kernel_rfl
@[simp] theorem isSliceT45 : isSliceT Tryd.prog 45 = true := by kernel_rfl
@[simp] theorem elemS45 : elemS Tryd.prog 45 = some 1 := by kernel_rfl
@[simp] theorem elemF45 : elemF Tryd.prog 45 = some (9, 16, 1, [Go.Abs.AV.str []]) := by kernel_rfl
@[simp] theorem tsz50 : tsz Tryd.prog 50 = some 1 := by kernel_rfl
@[simp] theorem tbytes50 : tbytes Tryd.prog 50 = some 8 := by kernel_rfl
@[simp] theorem tagg50 : tagg Tryd.prog 50 = some false := by kernel_rfl
@[simp] theorem tzero50 : tzero Tryd.prog 50 = some (Go.Abs.AV.ptr none) := by kernel_rfl
@[simp] theorem isPtrT50 : isPtrT Tryd.prog 50 = true := by kernel_rfl
@[simp] theorem tsz51 : tsz Tryd.prog 51 = some 1 := by kernel_rfl
@[simp] theorem tbytes51 : tbytes Tryd.prog 51 = some 24 := by kernel_rfl
@[simp] theorem tagg51 : tagg Tryd.prog 51 = some false := by kernel_rfl
@[simp] theorem tzero51 : tzero Tryd.prog 51 = some (Go.Abs.AV.slice none 0 0 none) := by kernel_rfl
@[simp] theorem isStrT51 : isStrT Tryd.prog 51 = false := by kernel_rfl
@[simp] theorem bytesT51 : bytesT Tryd.prog 51 = true := by kernel_rfl
@[simp] theorem elemT51 : elemT Tryd.prog 51 = some 5 := by kernel_rfl
@[simp] theorem isSliceT51 : isSliceT Tryd.prog 51 = true := by kernel_rfl
@[simp] theorem elemS51 : elemS Tryd.prog 51 = some 1 := by kernel_rfl
@[simp] theorem elemF51 : elemF Tryd.prog 51 = some (5, 1, 1, [Go.Abs.AV.int Go.IntKind.u8 0]) := by kernel_rfl
@[simp] theorem tsz52 : tsz Tryd.prog 52 = some 2 := by kernel_rfl
@[simp] theorem tbytes52 : tbytes Tryd.prog 52 = some 32 := by kernel_rfl
@[simp] theorem tagg52 : tagg Tryd.prog 52 = some true := by kernel_rfl
@[simp] theorem tzero52 : tzero Tryd.prog 52 = some (Go.Abs.AV.agg [Go.Abs.AV.ptr none, Go.Abs.AV.slice none 0 0 none]) := by kernel_rfl
@[simp] theorem tsz53 : tsz Tryd.prog 53 = some 2 := by kernel_rfl
@[simp] theorem tbytes53 : tbytes Tryd.prog 53 = some 32 := by kernel_rfl
@[simp] theorem tagg53 : tagg Tryd.prog 53 = some true := by kernel_rfl
@[simp] theorem tzero53 : tzero Tryd.prog 53 = some (Go.Abs.AV.agg [Go.Abs.AV.ptr none, Go.Abs.AV.slice none 0 0 none]) := by kernel_rfl
@[simp] theorem tsz56 : tsz Tryd.prog 56 = some 1 := by kernel_rfl
@[simp] theorem tbytes56 : tbytes Tryd.prog 56 = some 16 := by kernel_rfl
@[simp] theorem tagg56 : tagg Tryd.prog 56 = some false := by kernel_rfl
@[simp] theorem tzero56 : tzero Tryd.prog 56 = some Go.Abs.AV.nilIface := by kernel_rfl
@[simp] theorem tsz61 : tsz Tryd.prog 61 = some 1 := by kernel_rfl
@[simp] theorem tbytes61 : tbytes Tryd.prog 61 = some 8 := by kernel_rfl
@[simp] theorem tagg61 : tagg Tryd.prog 61 = some false := by kernel_rfl
@[simp] theorem tzero61 : tzero Tryd.prog 61 = some (Go.Abs.AV.int Go.IntKind.u64 0) := by kernel_rfl
@[simp] theorem intT61 : intT Tryd.prog 61 = some .u64 := by kernel_rfl
@[simp] theorem tsz65 : tsz Tryd.prog 65 = some 1 := by kernel_rfl
@[simp] theorem tbytes65 : tbytes Tryd.prog 65 = some 8 := by kernel_rfl
@[simp] theorem tagg65 : tagg Tryd.prog 65 = some false := by kernel_rfl
@[simp] theorem tzero65 : tzero Tryd.prog 65 = some (Go.Abs.AV.ptr none) := by kernel_rfl
@[simp] theorem isPtrT65 : isPtrT Tryd.prog 65 = true := by kernel_rfl
@[simp] theorem tsz69 : tsz Tryd.prog 69 = some 24 := by kernel_rfl
@[simp] theorem tbytes69 : tbytes Tryd.prog 69 = some 24 := by kernel_rfl
@[simp] theorem tagg69 : tagg Tryd.prog 69 = some true := by kernel_rfl
@[simp] theorem tzero69 : tzero Tryd.prog 69 = some (.agg (cellsOfBytes (zeroB 24))) := by kernel_rfl
@[simp] theorem isArrT69 : isArrT Tryd.prog 69 = some 24 := by kernel_rfl
@[simp] theorem elemA69 : elemA Tryd.prog 69 = some (24, 1) := by kernel_rfl
@[simp] theorem tsz70 : tsz Tryd.prog 70 = some 1 := by kernel_rfl
@[simp] theorem tbytes70 : tbytes Tryd.prog 70 = some 8 := by kernel_rfl
@[simp] theorem tagg70 : tagg Tryd.prog 70 = some false := by kernel_rfl
@[simp] theorem tzero70 : tzero Tryd.prog 70 = some (Go.Abs.AV.int Go.IntKind.u64 0) := by kernel_rfl
@[simp] theorem intT70 : intT Tryd.prog 70 = some .u64 := by kernel_rfl
@[simp] theorem tsz75 : tsz Tryd.prog 75 = some 1 := by kernel_rfl
@[simp] theorem tbytes75 : tbytes Tryd.prog 75 = some 8 := by kernel_rfl
@[simp] theorem tagg75 : tagg Tryd.prog 75 = some false := by kernel_rfl
@[simp] theorem tzero75 : tzero Tryd.prog 75 = some (Go.Abs.AV.ptr none) := by kernel_rfl
@[simp] theorem tsz79 : tsz Tryd.prog 79 = some 1 := by kernel_rfl
@[simp] theorem tbytes79 : tbytes Tryd.prog 79 = some 8 := by kernel_rfl
@[simp] theorem tagg79 : tagg Tryd.prog 79 = some false := by kernel_rfl
@[simp] theorem tzero79 : tzero Tryd.prog 79 = some (Go.Abs.AV.int Go.IntKind.i64 0) := by kernel_rfl
@[simp] theorem intT79 : intT Tryd.prog 79 = some .i64 := by kernel_rfl
@[simp] theorem tsz86 : tsz Tryd.prog 86 = some 1 := by kernel_rfl
@[simp] theorem tbytes86 : tbytes Tryd.prog 86 = some 4 := by kernel_rfl
@[simp] theorem tagg86 : tagg Tryd.prog 86 = some false := by kernel_rfl
@[simp] theorem tzero86 : tzero Tryd.prog 86 = some (Go.Abs.AV.int Go.IntKind.u32 0) := by kernel_rfl
@[simp] theorem intT86 : intT Tryd.prog 86 = some .u32 := by kernel_rfl
@[simp] theorem tsz89 : tsz Tryd.prog 89 = some 20 := by kernel_rfl
@[simp] theorem tbytes89 : tbytes Tryd.prog 89 = some 160 := by kernel_rfl
@[simp] theorem tagg89 : tagg Tryd.prog 89 = some true := by kernel_rfl
@[simp] theorem tzero89 : tzero Tryd.prog 89 = some (Go.Abs.AV.agg [Go.Abs.AV.int Go.IntKind.u64 0, Go.Abs.AV.int Go.IntKind.u64 0, Go.Abs.AV.int Go.IntKind.u64 0, Go.Abs.AV.int Go.IntKind.u64 0, Go.Abs.AV.int Go.IntKind.u64 0, Go.Abs.AV.int Go.IntKind.u64 0, Go.Abs.AV.int Go.IntKind.u64 0, Go.Abs.AV.int Go.IntKind.u64 0, Go.Abs.AV.int Go.IntKind.u64 0, Go.Abs.AV.int Go.IntKind.u64 0, Go.Abs.AV.int Go.IntKind.u64 0, Go.Abs.AV.int Go.IntKind.u64 0, Go.Abs.AV.int Go.IntKind.u64 0, Go.Abs.AV.int Go.IntKind.u64 0, Go.Abs.AV.int Go.IntKind.u64 0, Go.Abs.AV.int Go.IntKind.u64 0, Go.Abs.AV.int Go.IntKind.u64 0, Go.Abs.AV.int Go.IntKind.u64 0, Go.Abs.AV.int Go.IntKind.u64 0, Go.Abs.AV.int Go.IntKind.u64 0]) := by kernel_rfl
@[simp] theorem isArrT89 : isArrT Tryd.prog 89 = some 20 := by kernel_rfl
@[simp] theorem elemA89 : elemA Tryd.prog 89 = some (20, 1) := by kernel_rfl
@[simp] theorem tsz90 : tsz Tryd.prog 90 = some 65 := by kernel_rfl
@[simp] theorem tbytes90 : tbytes Tryd.prog 90 = some 65 := by kernel_rfl
@[simp] theorem tagg90 : tagg Tryd.prog 90 = some true := by kernel_rfl
@[simp] theorem tzero90 : tzero Tryd.prog 90 = some (.agg (cellsOfBytes (zeroB 65))) := by kernel_rfl
@[simp] theorem isArrT90 : isArrT Tryd.prog 90 = some 65 := by kernel_rfl
@[simp] theorem elemA90 : elemA Tryd.prog 90 = some (65, 1) := by kernel_rfl
@[simp] theorem tsz91 : tsz Tryd.prog 91 = some 1 := by kernel_rfl
@[simp] theorem tbytes91 : tbytes Tryd.prog 91 = some 8 := by kernel_rfl
@[simp] theorem tagg91 : tagg Tryd.prog 91 = some false := by kernel_rfl
@[simp] theorem tzero91 : tzero Tryd.prog 91 = some (Go.Abs.AV.int Go.IntKind.u64 0) := by kernel_rfl
@[simp] theorem intT91 : intT Tryd.prog 91 = some .u64 := by kernel_rfl
@[simp] theorem tsz95 : tsz Tryd.prog 95 = some 1 := by kernel_rfl
@[simp] theorem tbytes95 : tbytes Tryd.prog 95 = some 8 := by kernel_rfl
@[simp] theorem tagg95 : tagg Tryd.prog 95 = some false := by kernel_rfl
@[simp] theorem tzero95 : tzero Tryd.prog 95 = some (Go.Abs.AV.ptr none) := by kernel_rfl
@[simp] theorem isPtrT95 : isPtrT Tryd.prog 95 = true := by kernel_rfl
@[simp] theorem tsz97 : tsz Tryd.prog 97 = some 1 := by kernel_rfl
@[simp] theorem tbytes97 : tbytes Tryd.prog 97 = some 8 := by kernel_rfl
@[simp] theorem tagg97 : tagg Tryd.prog 97 = some false := by kernel_rfl
@[simp] theorem tzero97 : tzero Tryd.prog 97 = some (Go.Abs.AV.ptr none) := by kernel_rfl
@[simp] theorem isPtrT97 : isPtrT Tryd.prog 97 = true := by kernel_rfl
@[simp] theorem tsz100 : tsz Tryd.prog 100 = some 32 := by kernel_rfl
@[simp] theorem tbytes100 : tbytes Tryd.prog 100 = some 32 := by kernel_rfl
@[simp] theorem tagg100 : tagg Tryd.prog 100 = some true := by kernel_rfl
@[simp] theorem tzero100 : tzero Tryd.prog 100 = some (.agg (cellsOfBytes (zeroB 32))) := by kernel_rfl
@[simp] theorem isArrT100 : isArrT Tryd.prog 100 = some 32 := by kernel_rfl
@[simp] theorem elemA100 : elemA Tryd.prog 100 = some (32, 1) := by kernel_rfl
@[simp] theorem tsz101 : tsz Tryd.prog 101 = some 64 := by kernel_rfl
@[simp] theorem tbytes101 : tbytes Tryd.prog 101 = some 64 := by kernel_rfl
@[simp] theorem tagg101 : tagg Tryd.prog 101 = some true := by kernel_rfl
@[simp] theorem tzero101 : tzero Tryd.prog 101 = some (.agg (cellsOfBytes (zeroB 64))) := by kernel_rfl
@[simp] theorem isArrT101 : isArrT Tryd.prog 101 = some 64 := by kernel_rfl
@[simp] theorem elemA101 : elemA Tryd.prog 101 = some (64, 1) := by kernel_rfl
@[simp] theorem tsz102 : tsz Tryd.prog 102 = some 4 := by kernel_rfl
@[simp] theorem tbytes102 : tbytes Tryd.prog 102 = some 40 := by kernel_rfl
@[simp] theorem tagg102 : tagg Tryd.prog 102 = some true := by kernel_rfl
@[simp] theorem tzero102 : tzero Tryd.prog 102 = some (Go.Abs.AV.agg [Go.Abs.AV.ptr none, Go.Abs.AV.ptr none, Go.Abs.AV.ptr none, Go.Abs.AV.str []]) := by kernel_rfl
@[simp] theorem tsz103 : tsz Tryd.prog 103 = some 4 := by kernel_rfl
@[simp] theorem tbytes103 : tbytes Tryd.prog 103 = some 40 := by kernel_rfl
@[simp] theorem tagg103 : tagg Tryd.prog 103 = some true := by kernel_rfl
@[simp] theorem tzero103 : tzero Tryd.prog 103 = some (Go.Abs.AV.agg [Go.Abs.AV.ptr none, Go.Abs.AV.ptr none, Go.Abs.AV.ptr none, Go.Abs.AV.str []]) := by kernel_rfl
@[simp] theorem tsz104 : tsz Tryd.prog 104 = some 0 := by kernel_rfl
@[simp] theorem tbytes104 : tbytes Tryd.prog 104 = some 0 := by kernel_rfl
@[simp] theorem tagg104 : tagg Tryd.prog 104 = some true := by kernel_rfl
@[simp] theorem tzero104 : tzero Tryd.prog 104 = some (Go.Abs.AV.agg []) := by kernel_rfl
@[simp] theorem isArrT104 : isArrT Tryd.prog 104 = some 0 := by kernel_rfl
@[simp] theorem elemA104 : elemA Tryd.prog 104 = some (0, 1) := by kernel_rfl
@[simp] theorem tsz105 : tsz Tryd.prog 105 = some 0 := by kernel_rfl
@[simp] theorem tbytes105 : tbytes Tryd.prog 105 = some 0 := by kernel_rfl
@[simp] theorem tagg105 : tagg Tryd.prog 105 = some true := by kernel_rfl
@[simp] theorem tzero105 : tzero Tryd.prog 105 = some (Go.Abs.AV.agg []) := by kernel_rfl
@[simp] theorem tsz106 : tsz Tryd.prog 106 = some 0 := by kernel_rfl
@[simp] theorem tbytes106 : tbytes Tryd.prog 106 = some 0 := by kernel_rfl
@[simp] theorem tagg106 : tagg Tryd.prog 106 = some true := by kernel_rfl
@[simp] theorem tzero106 : tzero Tryd.prog 106 = some (Go.Abs.AV.agg []) := by kernel_rfl
@[simp] theorem tsz108 : tsz Tryd.prog 108 = some 1 := by kernel_rfl
@[simp] theorem tbytes108 : tbytes Tryd.prog 108 = some 1 := by kernel_rfl
@[simp] theorem tagg108 : tagg Tryd.prog 108 = some false := by kernel_rfl
@[simp] theorem tzero108 : tzero Tryd.prog 108 = some (Go.Abs.AV.int Go.IntKind.u8 0) := by kernel_rfl
@[simp] theorem intT108 : intT Tryd.prog 108 = some .u8 := by kernel_rfl
@[simp] theorem tsz109 : tsz Tryd.prog 109 = some 1 := by kernel_rfl
@[simp] theorem tbytes109 : tbytes Tryd.prog 109 = some 1 := by kernel_rfl
@[simp] theorem tagg109 : tagg Tryd.prog 109 = some false := by kernel_rfl
@[simp] theorem tzero109 : tzero Tryd.prog 109 = some (Go.Abs.AV.int Go.IntKind.u8 0) := by kernel_rfl
@[simp] theorem intT109 : intT Tryd.prog 109 = some .u8 := by kernel_rfl
@[simp] theorem tsz111 : tsz Tryd.prog 111 = some 1 := by kernel_rfl
@[simp] theorem tbytes111 : tbytes Tryd.prog 111 = some 4 := by kernel_rfl
@[simp] theorem tagg111 : tagg Tryd.prog 111 = some false := by kernel_rfl
@[simp] theorem tzero111 : tzero Tryd.prog 111 = some (Go.Abs.AV.int Go.IntKind.i32 0) := by kernel_rfl
@[simp] theorem intT111 : intT Tryd.prog 111 = some .i32 := by kernel_rfl
@[simp] theorem tsz112 : tsz Tryd.prog 112 = some 1 := by kernel_rfl
@[simp] theorem tbytes112 : tbytes Tryd.prog 112 = some 4 := by kernel_rfl
@[simp] theorem tagg112 : tagg Tryd.prog 112 = some false := by kernel_rfl
@[simp] theorem tzero112 : tzero Tryd.prog 112 = some (Go.Abs.AV.int Go.IntKind.i32 0) := by kernel_rfl
@[simp] theorem intT112 : intT Tryd.prog 112 = some .i32 := by kernel_rfl
@[simp] theorem tsz113 : tsz Tryd.prog 113 = some 11 := by kernel_rfl
@[simp] theorem tbytes113 : tbytes Tryd.prog 113 = some 48 := by kernel_rfl
@[simp] theorem tagg113 : tagg Tryd.prog 113 = some true := by kernel_rfl
@[simp] theorem tzero113 : tzero Tryd.prog 113 = some (Go.Abs.AV.agg [Go.Abs.AV.int Go.IntKind.u64 0, Go.Abs.AV.int Go.IntKind.u64 0, Go.Abs.AV.int Go.IntKind.u32 0, Go.Abs.AV.int Go.IntKind.u8 0, Go.Abs.AV.int Go.IntKind.u8 0, Go.Abs.AV.int Go.IntKind.u8 0, Go.Abs.AV.int Go.IntKind.u8 0, Go.Abs.AV.nilFunc, Go.Abs.AV.ptr none, Go.Abs.AV.int Go.IntKind.i32 0, Go.Abs.AV.int Go.IntKind.i32 0]) := by kernel_rfl
@[simp] theorem tsz114 : tsz Tryd.prog 114 = some 11 := by kernel_rfl
@[simp] theorem tbytes114 : tbytes Tryd.prog 114 = some 48 := by kernel_rfl
@[simp] theorem tagg114 : tagg Tryd.prog 114 = some true := by kernel_rfl
@[simp] theorem tzero114 : tzero Tryd.prog 114 = some (Go.Abs.AV.agg [Go.Abs.AV.int Go.IntKind.u64 0, Go.Abs.AV.int Go.IntKind.u64 0, Go.Abs.AV.int Go.IntKind.u32 0, Go.Abs.AV.int Go.IntKind.u8 0, Go.Abs.AV.int Go.IntKind.u8 0, Go.Abs.AV.int Go.IntKind.u8 0, Go.Abs.AV.int Go.IntKind.u8 0, Go.Abs.AV.nilFunc, Go.Abs.AV.ptr none, Go.Abs.AV.int Go.IntKind.i32 0, Go.Abs.AV.int Go.IntKind.i32 0]) := by kernel_rfl

end Go.Abs
