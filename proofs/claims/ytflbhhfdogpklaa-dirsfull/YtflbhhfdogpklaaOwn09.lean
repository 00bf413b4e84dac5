/- Texts on this program, joined. -/
import Derived.Test.YtflbhhfdogpklaaProg
import Derived.Test.YtflbhhfdogpklaaKit08
import Derived.Shelf.Spec.SlicesInsert
import Derived.KernelRfl
import Derived.Test.YtflbhhfdogpklaaKit04

/- Chapter 05: slices.Insert at a slice with room behind it, walked in the model. -/
namespace Go.Proofs
open Go.Shelf Go.RowKit Go.Lib
set_option linter.unusedVariables false
set_option linter.unusedSimpArgs false

set_option maxHeartbeats 4000000 in
set_option maxRecDepth 100000 in
theorem Try.insShift (b off n c i vb voff vc : Nat) (w W1 W2 : World) (hi : i < n) (hroom : n + 1 ≤ c) (hn : n ≤ 1000)
    (hov : ∀ lb cb, (callFunc 34 #[.slice (some ⟨vb, voff, none⟩) 1 vc, .slice (some ⟨b, off + (i + 1) * 2, none⟩) lb cb]).run Try.prog w = .ok (.value (.bool false)) w)
    (hcp1 : ∀ ty dc, (Builtin.copy_ #[52, 52] ty #[.slice (some ⟨b, off + (i + 1) * 2, none⟩) (n - i) dc, .slice (some ⟨b, off + i * 2, none⟩) (n + 1 - i) (c - i)]).run Try.prog w.drew = .ok (.int .i64 ((n - i : Nat) : Int)) W1)
    (hcp2 : ∀ ty dc, (Builtin.copy_ #[52, 52] ty #[.slice (some ⟨b, off + i * 2, none⟩) (n + 1 - i) dc, .slice (some ⟨vb, voff, none⟩) 1 vc]).run Try.prog W1 = .ok (.int .i64 ((1 : Nat) : Int)) W2) :
    Calls Try.prog 24 #[.slice (some ⟨b, off, none⟩) n c, .int .i64 i, .slice (some ⟨vb, voff, none⟩) 1 vc] w fun e w' =>
      e = .returned (.slice (some ⟨b, off, none⟩) (n + 1) c) ∧ w' = W2 := by
  have hz2 : ¬ ((i : Int) = (n : Int)) := by omega
  have hw1 : IntKind.i64.wrap ((i : Int) + 1) = (i : Int) + 1 := by rw [IntKind.wrap_i64]; omega
  have hw2 : IntKind.i64.wrap ((n : Int) + 1) = (n : Int) + 1 := by rw [IntKind.wrap_i64]; omega
  have hb1 : (0 : Int) ≤ (i : Int) + 1 := by omega
  have hin : i ≤ n := by omega
  have htn : ((i : Int) + 1).toNat = i + 1 := by omega
  have hb2 : ¬ (c = i + 1) := by omega
  have hb3 : (i : Int) ≤ (n : Int) + 1 := by omega
  have hb4 : ¬ (c = i) := by omega
  have mixed : Try.prog.follows .mixedOrders = true := by kernel_rfl
  go_enter Try.func24, Try.ntmps24
  go_wp2_with (simp only [hov])
  go_region_law_o (refine step_copy_runI rfl _ _ 52 52 rfl _ _ (by simp [Act.eval, Act.put]) (by simp [Act.eval, Act.put]) (hcp1 _ _) ?_)
  go_wp2_with (at_builtin; refine wpList_copy_runI _ rfl _ _ 52 52 rfl _ _ rfl rfl (hcp2 _ _) ?_)
  go_ret
  exact ⟨rfl, rfl⟩
end Go.Proofs

/- The sizes, zero values and kinds of the types of this seat's program, for the walks. -/
namespace Go.Abs
set_option linter.unusedVariables false
open Go.Proofs
set_option maxRecDepth 100000

@[simp] theorem tsz2 : tsz Try.prog 2 = some 1 := by kernel_rfl
@[simp] theorem tbytes2 : tbytes Try.prog 2 = some 8 := by kernel_rfl
@[simp] theorem tagg2 : tagg Try.prog 2 = some false := by kernel_rfl
@[simp] theorem tzero2 : tzero Try.prog 2 = some (Go.Abs.AV.int Go.IntKind.i64 0) := by kernel_rfl
@[simp] theorem intT2 : intT Try.prog 2 = some .i64 := by kernel_rfl
@[simp] theorem tsz3 : tsz Try.prog 3 = some 1 := by kernel_rfl
@[simp] theorem tbytes3 : tbytes Try.prog 3 = some 8 := by kernel_rfl
@[simp] theorem tagg3 : tagg Try.prog 3 = some false := by kernel_rfl
@[simp] theorem tzero3 : tzero Try.prog 3 = some (Go.Abs.AV.int Go.IntKind.i64 0) := by kernel_rfl
@[simp] theorem intT3 : intT Try.prog 3 = some .i64 := by kernel_rfl
@[simp] theorem tsz4 : tsz Try.prog 4 = some 1 := by kernel_rfl
@[simp] theorem tbytes4 : tbytes Try.prog 4 = some 1 := by kernel_rfl
@[simp] theorem tagg4 : tagg Try.prog 4 = some false := by kernel_rfl
@[simp] theorem tzero4 : tzero Try.prog 4 = some (Go.Abs.AV.bool false) := by kernel_rfl
@[simp] theorem isBoolT4 : isBoolT Try.prog 4 = true := by kernel_rfl
@[simp] theorem tsz5 : tsz Try.prog 5 = some 1 := by kernel_rfl
@[simp] theorem tbytes5 : tbytes Try.prog 5 = some 1 := by kernel_rfl
@[simp] theorem tagg5 : tagg Try.prog 5 = some false := by kernel_rfl
@[simp] theorem tzero5 : tzero Try.prog 5 = some (Go.Abs.AV.int Go.IntKind.u8 0) := by kernel_rfl
@[simp] theorem intT5 : intT Try.prog 5 = some .u8 := by kernel_rfl
@[simp] theorem tsz6 : tsz Try.prog 6 = some 1 := by kernel_rfl
@[simp] theorem tbytes6 : tbytes Try.prog 6 = some 1 := by kernel_rfl
@[simp] theorem tagg6 : tagg Try.prog 6 = some false := by kernel_rfl
@[simp] theorem tzero6 : tzero Try.prog 6 = some (Go.Abs.AV.int Go.IntKind.u8 0) := by kernel_rfl
@[simp] theorem intT6 : intT Try.prog 6 = some .u8 := by kernel_rfl
@[simp] theorem tsz7 : tsz Try.prog 7 = some 4 := by kernel_rfl
@[simp] theorem tbytes7 : tbytes Try.prog 7 = some 24 := by kernel_rfl
@[simp] theorem tagg7 : tagg Try.prog 7 = some true := by kernel_rfl
@[simp] theorem tzero7 : tzero Try.prog 7 = some (Go.Abs.AV.agg [Go.Abs.AV.int Go.IntKind.i64 0, Go.Abs.AV.int Go.IntKind.i64 0, Go.Abs.AV.bool false, Go.Abs.AV.int Go.IntKind.u8 0]) := by kernel_rfl
@[simp] theorem tsz8 : tsz Try.prog 8 = some 4 := by kernel_rfl
@[simp] theorem tbytes8 : tbytes Try.prog 8 = some 24 := by kernel_rfl
@[simp] theorem tagg8 : tagg Try.prog 8 = some true := by kernel_rfl
@[simp] theorem tzero8 : tzero Try.prog 8 = some (Go.Abs.AV.agg [Go.Abs.AV.int Go.IntKind.i64 0, Go.Abs.AV.int Go.IntKind.i64 0, Go.Abs.AV.bool false, Go.Abs.AV.int Go.IntKind.u8 0]) := by kernel_rfl
@[simp] theorem tsz9 : tsz Try.prog 9 = some 1 := by kernel_rfl
@[simp] theorem tbytes9 : tbytes Try.prog 9 = some 16 := by kernel_rfl
@[simp] theorem tagg9 : tagg Try.prog 9 = some false := by kernel_rfl
@[simp] theorem tzero9 : tzero Try.prog 9 = some (Go.Abs.AV.str []) := by kernel_rfl
@[simp] theorem isStrT9 : isStrT Try.prog 9 = true := by kernel_rfl
@[simp] theorem bytesT9 : bytesT Try.prog 9 = false := by kernel_rfl
@[simp] theorem tsz10 : tsz Try.prog 10 = some 1 := by kernel_rfl
@[simp] theorem tbytes10 : tbytes Try.prog 10 = some 16 := by kernel_rfl
@[simp] theorem tagg10 : tagg Try.prog 10 = some false := by kernel_rfl
@[simp] theorem tzero10 : tzero Try.prog 10 = some (Go.Abs.AV.str []) := by kernel_rfl
@[simp] theorem isStrT10 : isStrT Try.prog 10 = true := by kernel_rfl
@[simp] theorem bytesT10 : bytesT Try.prog 10 = false := by kernel_rfl
@[simp] theorem tsz11 : tsz Try.prog 11 = some 1 := by kernel_rfl
@[simp] theorem tbytes11 : tbytes Try.prog 11 = some 16 := by kernel_rfl
@[simp] theorem tagg11 : tagg Try.prog 11 = some false := by kernel_rfl
@[simp] theorem tzero11 : tzero Try.prog 11 = some (Go.Abs.AV.str []) := by kernel_rfl
@[simp] theorem isStrT11 : isStrT Try.prog 11 = true := by kernel_rfl
@[simp] theorem bytesT11 : bytesT Try.prog 11 = false := by kernel_rfl
@[simp] theorem tsz12 : tsz Try.prog 12 = some 1 := by kernel_rfl
@[simp] theorem tbytes12 : tbytes Try.prog 12 = some 8 := by kernel_rfl
@[simp] theorem tagg12 : tagg Try.prog 12 = some false := by kernel_rfl
@[simp] theorem tzero12 : tzero Try.prog 12 = some (Go.Abs.AV.int Go.IntKind.u64 0) := by kernel_rfl
@[simp] theorem intT12 : intT Try.prog 12 = some .u64 := by kernel_rfl
@[simp] theorem tsz13 : tsz Try.prog 13 = some 2 := by kernel_rfl
@[simp] theorem tbytes13 : tbytes Try.prog 13 = some 24 := by kernel_rfl
@[simp] theorem tagg13 : tagg Try.prog 13 = some true := by kernel_rfl
@[simp] theorem tzero13 : tzero Try.prog 13 = some (Go.Abs.AV.agg [Go.Abs.AV.str [], Go.Abs.AV.int Go.IntKind.u64 0]) := by kernel_rfl
@[simp] theorem tsz14 : tsz Try.prog 14 = some 2 := by kernel_rfl
@[simp] theorem tbytes14 : tbytes Try.prog 14 = some 24 := by kernel_rfl
@[simp] theorem tagg14 : tagg Try.prog 14 = some true := by kernel_rfl
@[simp] theorem tzero14 : tzero Try.prog 14 = some (Go.Abs.AV.agg [Go.Abs.AV.str [], Go.Abs.AV.int Go.IntKind.u64 0]) := by kernel_rfl
@[simp] theorem tsz15 : tsz Try.prog 15 = some 1 := by kernel_rfl
@[simp] theorem tbytes15 : tbytes Try.prog 15 = some 8 := by kernel_rfl
@[simp] theorem tagg15 : tagg Try.prog 15 = some false := by kernel_rfl
@[simp] theorem tzero15 : tzero Try.prog 15 = some (Go.Abs.AV.ptr none) := by kernel_rfl
@[simp] theorem isPtrT15 : isPtrT Try.prog 15 = true := by kernel_rfl
@[simp] theorem tsz16 : tsz Try.prog 16 = some 1 := by kernel_rfl
@[simp] theorem tbytes16 : tbytes Try.prog 16 = some 8 := by kernel_rfl
@[simp] theorem tagg16 : tagg Try.prog 16 = some false := by kernel_rfl
@[simp] theorem tzero16 : tzero Try.prog 16 = some (Go.Abs.AV.ptr none) := by kernel_rfl
@[simp] theorem isPtrT16 : isPtrT Try.prog 16 = true := by kernel_rfl
@[simp] theorem tsz17 : tsz Try.prog 17 = some 1 := by kernel_rfl
@[simp] theorem tbytes17 : tbytes Try.prog 17 = some 8 := by kernel_rfl
@[simp] theorem tagg17 : tagg Try.prog 17 = some false := by kernel_rfl
@[simp] theorem tzero17 : tzero Try.prog 17 = some (Go.Abs.AV.ptr none) := by kernel_rfl
@[simp] theorem isPtrT17 : isPtrT Try.prog 17 = true := by kernel_rfl
@[simp] theorem tsz18 : tsz Try.prog 18 = some 1 := by kernel_rfl
@[simp] theorem tbytes18 : tbytes Try.prog 18 = some 8 := by kernel_rfl
@[simp] theorem tagg18 : tagg Try.prog 18 = some true := by kernel_rfl
@[simp] theorem tzero18 : tzero Try.prog 18 = some (Go.Abs.AV.agg [Go.Abs.AV.ptr none]) := by kernel_rfl
@[simp] theorem tsz19 : tsz Try.prog 19 = some 1 := by kernel_rfl
@[simp] theorem tbytes19 : tbytes Try.prog 19 = some 8 := by kernel_rfl
@[simp] theorem tagg19 : tagg Try.prog 19 = some true := by kernel_rfl
@[simp] theorem tzero19 : tzero Try.prog 19 = some (Go.Abs.AV.agg [Go.Abs.AV.ptr none]) := by kernel_rfl
@[simp] theorem tsz21 : tsz Try.prog 21 = some 1 := by kernel_rfl
@[simp] theorem tbytes21 : tbytes Try.prog 21 = some 4 := by kernel_rfl
@[simp] theorem tagg21 : tagg Try.prog 21 = some false := by kernel_rfl
@[simp] theorem tzero21 : tzero Try.prog 21 = some (Go.Abs.AV.int Go.IntKind.i32 0) := by kernel_rfl
@[simp] theorem intT21 : intT Try.prog 21 = some .i32 := by kernel_rfl
@[simp] theorem tsz22 : tsz Try.prog 22 = some 1 := by kernel_rfl
@[simp] theorem tbytes22 : tbytes Try.prog 22 = some 8 := by kernel_rfl
@[simp] theorem tagg22 : tagg Try.prog 22 = some false := by kernel_rfl
@[simp] theorem tzero22 : tzero Try.prog 22 = some (Go.Abs.AV.ptr none) := by kernel_rfl
@[simp] theorem isPtrT22 : isPtrT Try.prog 22 = true := by kernel_rfl
@[simp] theorem tsz24 : tsz Try.prog 24 = some 1 := by kernel_rfl
@[simp] theorem tbytes24 : tbytes Try.prog 24 = some 8 := by kernel_rfl
@[simp] theorem tagg24 : tagg Try.prog 24 = some false := by kernel_rfl
@[simp] theorem tzero24 : tzero Try.prog 24 = some (Go.Abs.AV.int Go.IntKind.i64 0) := by kernel_rfl
@[simp] theorem intT24 : intT Try.prog 24 = some .i64 := by kernel_rfl
@[simp] theorem tsz28 : tsz Try.prog 28 = some 1 := by kernel_rfl
@[simp] theorem tbytes28 : tbytes Try.prog 28 = some 24 := by kernel_rfl
@[simp] theorem tagg28 : tagg Try.prog 28 = some false := by kernel_rfl
@[simp] theorem tzero28 : tzero Try.prog 28 = some (Go.Abs.AV.slice none 0 0 none) := by kernel_rfl
@[simp] theorem isStrT28 : isStrT Try.prog 28 = false := by kernel_rfl
@[simp] theorem bytesT28 : bytesT Try.prog 28 = true := by kernel_rfl
@[simp] theorem elemT28 : elemT Try.prog 28 = some 5 := by kernel_rfl
@[simp] theorem isSliceT28 : isSliceT Try.prog 28 = true := by kernel_rfl
@[simp] theorem elemS28 : elemS Try.prog 28 = some 1 := by kernel_rfl
@[simp] theorem elemF28 : elemF Try.prog 28 = some (5, 1, 1, [Go.Abs.AV.int Go.IntKind.u8 0]) := by kernel_rfl
@[simp] theorem tsz31 : tsz Try.prog 31 = some 1 := by kernel_rfl
@[simp] theorem tbytes31 : tbytes Try.prog 31 = some 24 := by kernel_rfl
@[simp] theorem tagg31 : tagg Try.prog 31 = some false := by kernel_rfl
@[simp] theorem tzero31 : tzero Try.prog 31 = some (Go.Abs.AV.slice none 0 0 none) := by kernel_rfl
@[simp] theorem isStrT31 : isStrT Try.prog 31 = false := by kernel_rfl
@[simp] theorem bytesT31 : bytesT Try.prog 31 = false := by kernel_rfl
@[simp] theorem elemT31 : elemT Try.prog 31 = some 36 := by kernel_rfl
@[simp] theorem isSliceT31 : isSliceT Try.prog 31 = true := by kernel_rfl
@[simp] theorem elemS31 : elemS Try.prog 31 = some 3 := by kernel_rfl
@[simp] theorem elemF31 : elemF Try.prog 31 = some (36, 32, 3, [Go.Abs.AV.int Go.IntKind.i64 0, Go.Abs.AV.str [], Go.Abs.AV.int Go.IntKind.i64 0]) := by kernel_rfl
@[simp] theorem tsz32 : tsz Try.prog 32 = some 1 := by kernel_rfl
@[simp] theorem tbytes32 : tbytes Try.prog 32 = some 24 := by kernel_rfl
@[simp] theorem tagg32 : tagg Try.prog 32 = some false := by kernel_rfl
@[simp] theorem tzero32 : tzero Try.prog 32 = some (Go.Abs.AV.slice none 0 0 none) := by kernel_rfl
@[simp] theorem isStrT32 : isStrT Try.prog 32 = false := by kernel_rfl
@[simp] theorem bytesT32 : bytesT Try.prog 32 = false := by kernel_rfl
@[simp] theorem elemT32 : elemT Try.prog 32 = some 64 := by kernel_rfl
@[simp] theorem isSliceT32 : isSliceT Try.prog 32 = true := by kernel_rfl
@[simp] theorem elemS32 : elemS Try.prog 32 = some 2 := by kernel_rfl
@[simp] theorem elemF32 : elemF Try.prog 32 = some (64, 24, 2, [Go.Abs.AV.str [], Go.Abs.AV.int Go.IntKind.i64 0]) := by kernel_rfl
@[simp] theorem tsz35 : tsz Try.prog 35 = some 3 := by kernel_rfl
@[simp] theorem tbytes35 : tbytes Try.prog 35 = some 32 := by kernel_rfl
@[simp] theorem tagg35 : tagg Try.prog 35 = some true := by kernel_rfl
@[simp] theorem tzero35 : tzero Try.prog 35 = some (Go.Abs.AV.agg [Go.Abs.AV.int Go.IntKind.i64 0, Go.Abs.AV.str [], Go.Abs.AV.int Go.IntKind.i64 0]) := by kernel_rfl
@[simp] theorem tsz36 : tsz Try.prog 36 = some 3 := by kernel_rfl
@[simp] theorem tbytes36 : tbytes Try.prog 36 = some 32 := by kernel_rfl
@[simp] theorem tagg36 : tagg Try.prog 36 = some true := by kernel_rfl
@[simp] theorem tzero36 : tzero Try.prog 36 = some (Go.Abs.AV.agg [Go.Abs.AV.int Go.IntKind.i64 0, Go.Abs.AV.str [], Go.Abs.AV.int Go.IntKind.i64 0]) := by kernel_rfl
@[simp] theorem tsz38 : tsz Try.prog 38 = some 1 := by kernel_rfl
@[simp] theorem tbytes38 : tbytes Try.prog 38 = some 24 := by kernel_rfl
@[simp] theorem tagg38 : tagg Try.prog 38 = some false := by kernel_rfl
@[simp] theorem tzero38 : tzero Try.prog 38 = some (Go.Abs.AV.slice none 0 0 none) := by kernel_rfl
@[simp] theorem isStrT38 : isStrT Try.prog 38 = false := by kernel_rfl
@[simp] theorem bytesT38 : bytesT Try.prog 38 = false := by kernel_rfl
@[simp] theorem elemT38 : elemT Try.prog 38 = some 9 := by kernel_rfl
@[simp] theorem isSliceT38 : isSliceT Try.prog 38 = true := by kernel_rfl
@[simp] theorem elemS38 : elemS Try.prog 38 = some 1 := by kernel_rfl
@[simp] theorem elemF38 : elemF Try.prog 38 = some (9, 16, 1, [Go.Abs.AV.str []]) := by kernel_rfl
@[simp] theorem tsz52 : tsz Try.prog 52 = some 1 := by kernel_rfl
@[simp] theorem tbytes52 : tbytes Try.prog 52 = some 24 := by kernel_rfl
@[simp] theorem tagg52 : tagg Try.prog 52 = some false := by kernel_rfl
@[simp] theorem tzero52 : tzero Try.prog 52 = some (Go.Abs.AV.slice none 0 0 none) := by kernel_rfl
@[simp] theorem isStrT52 : isStrT Try.prog 52 = false := by kernel_rfl
@[simp] theorem bytesT52 : bytesT Try.prog 52 = false := by kernel_rfl
@[simp] theorem elemT52 : elemT Try.prog 52 = some 57 := by kernel_rfl
@[simp] theorem isSliceT52 : isSliceT Try.prog 52 = true := by kernel_rfl
@[simp] theorem elemS52 : elemS Try.prog 52 = some 2 := by kernel_rfl
@[simp] theorem elemF52 : elemF Try.prog 52 = some (57, 24, 2, [Go.Abs.AV.str [], Go.Abs.AV.int Go.IntKind.i64 0]) := by kernel_rfl
@[simp] theorem tsz53 : tsz Try.prog 53 = some 1 := by kernel_rfl
@[simp] theorem tbytes53 : tbytes Try.prog 53 = some 24 := by kernel_rfl
@[simp] theorem tagg53 : tagg Try.prog 53 = some true := by kernel_rfl
@[simp] theorem tzero53 : tzero Try.prog 53 = some (Go.Abs.AV.agg [Go.Abs.AV.slice none 0 0 none]) := by kernel_rfl
@[simp] theorem tsz54 : tsz Try.prog 54 = some 1 := by kernel_rfl
@[simp] theorem tbytes54 : tbytes Try.prog 54 = some 24 := by kernel_rfl
@[simp] theorem tagg54 : tagg Try.prog 54 = some true := by kernel_rfl
@[simp] theorem tzero54 : tzero Try.prog 54 = some (Go.Abs.AV.agg [Go.Abs.AV.slice none 0 0 none]) := by kernel_rfl
@[simp] theorem tsz56 : tsz Try.prog 56 = some 2 := by kernel_rfl
@[simp] theorem tbytes56 : tbytes Try.prog 56 = some 24 := by kernel_rfl
@[simp] theorem tagg56 : tagg Try.prog 56 = some true := by kernel_rfl
@[simp] theorem tzero56 : tzero Try.prog 56 = some (Go.Abs.AV.agg [Go.Abs.AV.str [], Go.Abs.AV.int Go.IntKind.i64 0]) := by kernel_rfl
@[simp] theorem tsz57 : tsz Try.prog 57 = some 2 := by kernel_rfl
@[simp] theorem tbytes57 : tbytes Try.prog 57 = some 24 := by kernel_rfl
@[simp] theorem tagg57 : tagg Try.prog 57 = some true := by kernel_rfl
@[simp] theorem tzero57 : tzero Try.prog 57 = some (Go.Abs.AV.agg [Go.Abs.AV.str [], Go.Abs.AV.int Go.IntKind.i64 0]) := by kernel_rfl
@[simp] theorem tsz63 : tsz Try.prog 63 = some 2 := by kernel_rfl
@[simp] theorem tbytes63 : tbytes Try.prog 63 = some 24 := by kernel_rfl
@[simp] theorem tagg63 : tagg Try.prog 63 = some true := by kernel_rfl
@[simp] theorem tzero63 : tzero Try.prog 63 = some (Go.Abs.AV.agg [Go.Abs.AV.str [], Go.Abs.AV.int Go.IntKind.i64 0]) := by kernel_rfl
@[simp] theorem tsz64 : tsz Try.prog 64 = some 2 := by kernel_rfl
@[simp] theorem tbytes64 : tbytes Try.prog 64 = some 24 := by kernel_rfl
@[simp] theorem tagg64 : tagg Try.prog 64 = some true := by kernel_rfl
@[simp] theorem tzero64 : tzero Try.prog 64 = some (Go.Abs.AV.agg [Go.Abs.AV.str [], Go.Abs.AV.int Go.IntKind.i64 0]) := by kernel_rfl
@[simp] theorem tsz73 : tsz Try.prog 73 = some 1 := by kernel_rfl
@[simp] theorem tbytes73 : tbytes Try.prog 73 = some 8 := by kernel_rfl
@[simp] theorem tagg73 : tagg Try.prog 73 = some false := by kernel_rfl
@[simp] theorem tzero73 : tzero Try.prog 73 = some (Go.Abs.AV.int Go.IntKind.u64 0) := by kernel_rfl
@[simp] theorem intT73 : intT Try.prog 73 = some .u64 := by kernel_rfl
@[simp] theorem tsz76 : tsz Try.prog 76 = some 256 := by kernel_rfl
@[simp] theorem tbytes76 : tbytes Try.prog 76 = some 256 := by kernel_rfl
@[simp] theorem tagg76 : tagg Try.prog 76 = some true := by kernel_rfl
@[simp] theorem tzero76 : tzero Try.prog 76 = some (Go.Abs.AV.agg [Go.Abs.AV.bool false, Go.Abs.AV.bool false, Go.Abs.AV.bool false, Go.Abs.AV.bool false, Go.Abs.AV.bool false, Go.Abs.AV.bool false, Go.Abs.AV.bool false, Go.Abs.AV.bool false, Go.Abs.AV.bool false, Go.Abs.AV.bool false, Go.Abs.AV.bool false, Go.Abs.AV.bool false, Go.Abs.AV.bool false, Go.Abs.AV.bool false, Go.Abs.AV.bool false, Go.Abs.AV.bool false, Go.Abs.AV.bool false, Go.Abs.AV.bool false, Go.Abs.AV.bool false, Go.Abs.AV.bool false, Go.Abs.AV.bool false, Go.Abs.AV.bool false, Go.Abs.AV.bool false, Go.Abs.AV.bool false, Go.Abs.AV.bool false, Go.Abs.AV.bool false, Go.Abs.AV.bool false, Go.Abs.AV.bool false, Go.Abs.AV.bool false, Go.Abs.AV.bool false, Go.Abs.AV.bool false, Go.Abs.AV.bool false, Go.Abs.AV.bool false, Go.Abs.AV.bool false, Go.Abs.AV.bool false, Go.Abs.AV.bool false, Go.Abs.AV.bool false, Go.Abs.AV.bool false, Go.Abs.AV.bool false, Go.Abs.AV.bool false, Go.Abs.AV.bool false, Go.Abs.AV.bool false, Go.Abs.AV.bool false, Go.Abs.AV.bool false, Go.Abs.AV.bool false, Go.Abs.AV.bool false, Go.Abs.AV.bool false, Go.Abs.AV.bool false, Go.Abs.AV.bool false, Go.Abs.AV.bool false, Go.Abs.AV.bool false, Go.Abs.AV.bool false, Go.Abs.AV.bool false, Go.Abs.AV.bool false, Go.Abs.AV.bool false, Go.Abs.AV.bool false, Go.Abs.AV.bool false, Go.Abs.AV.bool false, Go.Abs.AV.bool false, Go.Abs.AV.bool false, Go.Abs.AV.bool false, Go.Abs.AV.bool false, Go.Abs.AV.bool false, Go.Abs.AV.bool false, Go.Abs.AV.bool false, Go.Abs.AV.bool false, Go.Abs.AV.bool false, Go.Abs.AV.bool false, Go.Abs.AV.bool false, Go.Abs.AV.bool false, Go.Abs.AV.bool false, Go.Abs.AV.bool false, Go.Abs.AV.bool false, Go.Abs.AV.bool false, Go.Abs.AV.bool false, Go.Abs.AV.bool false, Go.Abs.AV.bool false, Go.Abs.AV.bool false, Go.Abs.AV.bool false, Go.Abs.AV.bool false, Go.Abs.AV.bool false, Go.Abs.AV.bool false, Go.Abs.AV.bool false, Go.Abs.AV.bool false, Go.Abs.AV.bool false, Go.Abs.AV.bool false, Go.Abs.AV.bool false, Go.Abs.AV.bool false, Go.Abs.AV.bool false, Go.Abs.AV.bool false, Go.Abs.AV.bool false, Go.Abs.AV.bool false, Go.Abs.AV.bool false, Go.Abs.AV.bool false, Go.Abs.AV.bool false, Go.Abs.AV.bool false, Go.Abs.AV.bool false, Go.Abs.AV.bool false, Go.Abs.AV.bool false, Go.Abs.AV.bool false, Go.Abs.AV.bool false, Go.Abs.AV.bool false, Go.Abs.AV.bool false, Go.Abs.AV.bool false, Go.Abs.AV.bool false, Go.Abs.AV.bool false, Go.Abs.AV.bool false, Go.Abs.AV.bool false, Go.Abs.AV.bool false, Go.Abs.AV.bool false, Go.Abs.AV.bool false, Go.Abs.AV.bool false, Go.Abs.AV.bool false, Go.Abs.AV.bool false, Go.Abs.AV.bool false, Go.Abs.AV.bool false, Go.Abs.AV.bool false, Go.Abs.AV.bool false, Go.Abs.AV.bool false, Go.Abs.AV.bool false, Go.Abs.AV.bool false, Go.Abs.AV.bool false, Go.Abs.AV.bool false, Go.Abs.AV.bool false, Go.Abs.AV.bool false, Go.Abs.AV.bool false, Go.Abs.AV.bool false, Go.Abs.AV.bool false, Go.Abs.AV.bool false, Go.Abs.AV.bool false, Go.Abs.AV.bool false, Go.Abs.AV.bool false, Go.Abs.AV.bool false, Go.Abs.AV.bool false, Go.Abs.AV.bool false, Go.Abs.AV.bool false, Go.Abs.AV.bool false, Go.Abs.AV.bool false, Go.Abs.AV.bool false, Go.Abs.AV.bool false, Go.Abs.AV.bool false, Go.Abs.AV.bool false, Go.Abs.AV.bool false, Go.Abs.AV.bool false, Go.Abs.AV.bool false, Go.Abs.AV.bool false, Go.Abs.AV.bool false, Go.Abs.AV.bool false, Go.Abs.AV.bool false, Go.Abs.AV.bool false, Go.Abs.AV.bool false, Go.Abs.AV.bool false, Go.Abs.AV.bool false, Go.Abs.AV.bool false, Go.Abs.AV.bool false, Go.Abs.AV.bool false, Go.Abs.AV.bool false, Go.Abs.AV.bool false, Go.Abs.AV.bool false, Go.Abs.AV.bool false, Go.Abs.AV.bool false, Go.Abs.AV.bool false, Go.Abs.AV.bool false, Go.Abs.AV.bool false, Go.Abs.AV.bool false, Go.Abs.AV.bool false, Go.Abs.AV.bool false, Go.Abs.AV.bool false, Go.Abs.AV.bool false, Go.Abs.AV.bool false, Go.Abs.AV.bool false, Go.Abs.AV.bool false, Go.Abs.AV.bool false, Go.Abs.AV.bool false, Go.Abs.AV.bool false, Go.Abs.AV.bool false, Go.Abs.AV.bool false, Go.Abs.AV.bool false, Go.Abs.AV.bool false, Go.Abs.AV.bool false, Go.Abs.AV.bool false, Go.Abs.AV.bool false, Go.Abs.AV.bool false, Go.Abs.AV.bool false, Go.Abs.AV.bool false, Go.Abs.AV.bool false, Go.Abs.AV.bool false, Go.Abs.AV.bool false, Go.Abs.AV.bool false, Go.Abs.AV.bool false, Go.Abs.AV.bool false, Go.Abs.AV.bool false, Go.Abs.AV.bool false, Go.Abs.AV.bool false, Go.Abs.AV.bool false, Go.Abs.AV.bool false, Go.Abs.AV.bool false, Go.Abs.AV.bool false, Go.Abs.AV.bool false, Go.Abs.AV.bool false, Go.Abs.AV.bool false, Go.Abs.AV.bool false, Go.Abs.AV.bool false, Go.Abs.AV.bool false, Go.Abs.AV.bool false, Go.Abs.AV.bool false, Go.Abs.AV.bool false, Go.Abs.AV.bool false, Go.Abs.AV.bool false, Go.Abs.AV.bool false, Go.Abs.AV.bool false, Go.Abs.AV.bool false, Go.Abs.AV.bool false, Go.Abs.AV.bool false, Go.Abs.AV.bool false, Go.Abs.AV.bool false, Go.Abs.AV.bool false, Go.Abs.AV.bool false, Go.Abs.AV.bool false, Go.Abs.AV.bool false, Go.Abs.AV.bool false, Go.Abs.AV.bool false, Go.Abs.AV.bool false, Go.Abs.AV.bool false, Go.Abs.AV.bool false, Go.Abs.AV.bool false, Go.Abs.AV.bool false, Go.Abs.AV.bool false, Go.Abs.AV.bool false, Go.Abs.AV.bool false, Go.Abs.AV.bool false, Go.Abs.AV.bool false, Go.Abs.AV.bool false, Go.Abs.AV.bool false, Go.Abs.AV.bool false, Go.Abs.AV.bool false, Go.Abs.AV.bool false, Go.Abs.AV.bool false, Go.Abs.AV.bool false, Go.Abs.AV.bool false, Go.Abs.AV.bool false, Go.Abs.AV.bool false, Go.Abs.AV.bool false, Go.Abs.AV.bool false, Go.Abs.AV.bool false, Go.Abs.AV.bool false, Go.Abs.AV.bool false, Go.Abs.AV.bool false, Go.Abs.AV.bool false, Go.Abs.AV.bool false, Go.Abs.AV.bool false, Go.Abs.AV.bool false, Go.Abs.AV.bool false, Go.Abs.AV.bool false, Go.Abs.AV.bool false, Go.Abs.AV.bool false]) := by kernel_rfl
@[simp] theorem isArrT76 : isArrT Try.prog 76 = some 256 := by kernel_rfl
@[simp] theorem elemA76 : elemA Try.prog 76 = some (256, 1) := by kernel_rfl
@[simp] theorem tsz77 : tsz Try.prog 77 = some 256 := by kernel_rfl
@[simp] theorem tbytes77 : tbytes Try.prog 77 = some 256 := by kernel_rfl
@[simp] theorem tagg77 : tagg Try.prog 77 = some true := by kernel_rfl
@[simp] theorem tzero77 : tzero Try.prog 77 = some (Go.Abs.AV.agg [Go.Abs.AV.bool false, Go.Abs.AV.bool false, Go.Abs.AV.bool false, Go.Abs.AV.bool false, Go.Abs.AV.bool false, Go.Abs.AV.bool false, Go.Abs.AV.bool false, Go.Abs.AV.bool false, Go.Abs.AV.bool false, Go.Abs.AV.bool false, Go.Abs.AV.bool false, Go.Abs.AV.bool false, Go.Abs.AV.bool false, Go.Abs.AV.bool false, Go.Abs.AV.bool false, Go.Abs.AV.bool false, Go.Abs.AV.bool false, Go.Abs.AV.bool false, Go.Abs.AV.bool false, Go.Abs.AV.bool false, Go.Abs.AV.bool false, Go.Abs.AV.bool false, Go.Abs.AV.bool false, Go.Abs.AV.bool false, Go.Abs.AV.bool false, Go.Abs.AV.bool false, Go.Abs.AV.bool false, Go.Abs.AV.bool false, Go.Abs.AV.bool false, Go.Abs.AV.bool false, Go.Abs.AV.bool false, Go.Abs.AV.bool false, Go.Abs.AV.bool false, Go.Abs.AV.bool false, Go.Abs.AV.bool false, Go.Abs.AV.bool false, Go.Abs.AV.bool false, Go.Abs.AV.bool false, Go.Abs.AV.bool false, Go.Abs.AV.bool false, Go.Abs.AV.bool false, Go.Abs.AV.bool false, Go.Abs.AV.bool false, Go.Abs.AV.bool false, Go.Abs.AV.bool false, Go.Abs.AV.bool false, Go.Abs.AV.bool false, Go.Abs.AV.bool false, Go.Abs.AV.bool false, Go.Abs.AV.bool false, Go.Abs.AV.bool false, Go.Abs.AV.bool false, Go.Abs.AV.bool false, Go.Abs.AV.bool false, Go.Abs.AV.bool false, Go.Abs.AV.bool false, Go.Abs.AV.bool false, Go.Abs.AV.bool false, Go.Abs.AV.bool false, Go.Abs.AV.bool false, Go.Abs.AV.bool false, Go.Abs.AV.bool false, Go.Abs.AV.bool false, Go.Abs.AV.bool false, Go.Abs.AV.bool false, Go.Abs.AV.bool false, Go.Abs.AV.bool false, Go.Abs.AV.bool false, Go.Abs.AV.bool false, Go.Abs.AV.bool false, Go.Abs.AV.bool false, Go.Abs.AV.bool false, Go.Abs.AV.bool false, Go.Abs.AV.bool false, Go.Abs.AV.bool false, Go.Abs.AV.bool false, Go.Abs.AV.bool false, Go.Abs.AV.bool false, Go.Abs.AV.bool false, Go.Abs.AV.bool false, Go.Abs.AV.bool false, Go.Abs.AV.bool false, Go.Abs.AV.bool false, Go.Abs.AV.bool false, Go.Abs.AV.bool false, Go.Abs.AV.bool false, Go.Abs.AV.bool false, Go.Abs.AV.bool false, Go.Abs.AV.bool false, Go.Abs.AV.bool false, Go.Abs.AV.bool false, Go.Abs.AV.bool false, Go.Abs.AV.bool false, Go.Abs.AV.bool false, Go.Abs.AV.bool false, Go.Abs.AV.bool false, Go.Abs.AV.bool false, Go.Abs.AV.bool false, Go.Abs.AV.bool false, Go.Abs.AV.bool false, Go.Abs.AV.bool false, Go.Abs.AV.bool false, Go.Abs.AV.bool false, Go.Abs.AV.bool false, Go.Abs.AV.bool false, Go.Abs.AV.bool false, Go.Abs.AV.bool false, Go.Abs.AV.bool false, Go.Abs.AV.bool false, Go.Abs.AV.bool false, Go.Abs.AV.bool false, Go.Abs.AV.bool false, Go.Abs.AV.bool false, Go.Abs.AV.bool false, Go.Abs.AV.bool false, Go.Abs.AV.bool false, Go.Abs.AV.bool false, Go.Abs.AV.bool false, Go.Abs.AV.bool false, Go.Abs.AV.bool false, Go.Abs.AV.bool false, Go.Abs.AV.bool false, Go.Abs.AV.bool false, Go.Abs.AV.bool false, Go.Abs.AV.bool false, Go.Abs.AV.bool false, Go.Abs.AV.bool false, Go.Abs.AV.bool false, Go.Abs.AV.bool false, Go.Abs.AV.bool false, Go.Abs.AV.bool false, Go.Abs.AV.bool false, Go.Abs.AV.bool false, Go.Abs.AV.bool false, Go.Abs.AV.bool false, Go.Abs.AV.bool false, Go.Abs.AV.bool false, Go.Abs.AV.bool false, Go.Abs.AV.bool false, Go.Abs.AV.bool false, Go.Abs.AV.bool false, Go.Abs.AV.bool false, Go.Abs.AV.bool false, Go.Abs.AV.bool false, Go.Abs.AV.bool false, Go.Abs.AV.bool false, Go.Abs.AV.bool false, Go.Abs.AV.bool false, Go.Abs.AV.bool false, Go.Abs.AV.bool false, Go.Abs.AV.bool false, Go.Abs.AV.bool false, Go.Abs.AV.bool false, Go.Abs.AV.bool false, Go.Abs.AV.bool false, Go.Abs.AV.bool false, Go.Abs.AV.bool false, Go.Abs.AV.bool false, Go.Abs.AV.bool false, Go.Abs.AV.bool false, Go.Abs.AV.bool false, Go.Abs.AV.bool false, Go.Abs.AV.bool false, Go.Abs.AV.bool false, Go.Abs.AV.bool false, Go.Abs.AV.bool false, Go.Abs.AV.bool false, Go.Abs.AV.bool false, Go.Abs.AV.bool false, Go.Abs.AV.bool false, Go.Abs.AV.bool false, Go.Abs.AV.bool false, Go.Abs.AV.bool false, Go.Abs.AV.bool false, Go.Abs.AV.bool false, Go.Abs.AV.bool false, Go.Abs.AV.bool false, Go.Abs.AV.bool false, Go.Abs.AV.bool false, Go.Abs.AV.bool false, Go.Abs.AV.bool false, Go.Abs.AV.bool false, Go.Abs.AV.bool false, Go.Abs.AV.bool false, Go.Abs.AV.bool false, Go.Abs.AV.bool false, Go.Abs.AV.bool false, Go.Abs.AV.bool false, Go.Abs.AV.bool false, Go.Abs.AV.bool false, Go.Abs.AV.bool false, Go.Abs.AV.bool false, Go.Abs.AV.bool false, Go.Abs.AV.bool false, Go.Abs.AV.bool false, Go.Abs.AV.bool false, Go.Abs.AV.bool false, Go.Abs.AV.bool false, Go.Abs.AV.bool false, Go.Abs.AV.bool false, Go.Abs.AV.bool false, Go.Abs.AV.bool false, Go.Abs.AV.bool false, Go.Abs.AV.bool false, Go.Abs.AV.bool false, Go.Abs.AV.bool false, Go.Abs.AV.bool false, Go.Abs.AV.bool false, Go.Abs.AV.bool false, Go.Abs.AV.bool false, Go.Abs.AV.bool false, Go.Abs.AV.bool false, Go.Abs.AV.bool false, Go.Abs.AV.bool false, Go.Abs.AV.bool false, Go.Abs.AV.bool false, Go.Abs.AV.bool false, Go.Abs.AV.bool false, Go.Abs.AV.bool false, Go.Abs.AV.bool false, Go.Abs.AV.bool false, Go.Abs.AV.bool false, Go.Abs.AV.bool false, Go.Abs.AV.bool false, Go.Abs.AV.bool false, Go.Abs.AV.bool false, Go.Abs.AV.bool false, Go.Abs.AV.bool false, Go.Abs.AV.bool false, Go.Abs.AV.bool false, Go.Abs.AV.bool false, Go.Abs.AV.bool false, Go.Abs.AV.bool false, Go.Abs.AV.bool false, Go.Abs.AV.bool false, Go.Abs.AV.bool false, Go.Abs.AV.bool false, Go.Abs.AV.bool false, Go.Abs.AV.bool false, Go.Abs.AV.bool false, Go.Abs.AV.bool false, Go.Abs.AV.bool false, Go.Abs.AV.bool false, Go.Abs.AV.bool false, Go.Abs.AV.bool false, Go.Abs.AV.bool false, Go.Abs.AV.bool false, Go.Abs.AV.bool false, Go.Abs.AV.bool false, Go.Abs.AV.bool false, Go.Abs.AV.bool false, Go.Abs.AV.bool false, Go.Abs.AV.bool false, Go.Abs.AV.bool false, Go.Abs.AV.bool false, Go.Abs.AV.bool false]) := by kernel_rfl
@[simp] theorem isArrT77 : isArrT Try.prog 77 = some 256 := by kernel_rfl
@[simp] theorem elemA77 : elemA Try.prog 77 = some (256, 1) := by kernel_rfl
@[simp] theorem tsz85 : tsz Try.prog 85 = some 1 := by kernel_rfl
@[simp] theorem tbytes85 : tbytes Try.prog 85 = some 8 := by kernel_rfl
@[simp] theorem tagg85 : tagg Try.prog 85 = some false := by kernel_rfl
@[simp] theorem tzero85 : tzero Try.prog 85 = some (Go.Abs.AV.ptr none) := by kernel_rfl
@[simp] theorem isPtrT85 : isPtrT Try.prog 85 = true := by kernel_rfl
@[simp] theorem tsz87 : tsz Try.prog 87 = some 4 := by kernel_rfl
@[simp] theorem tbytes87 : tbytes Try.prog 87 = some 40 := by kernel_rfl
@[simp] theorem tagg87 : tagg Try.prog 87 = some true := by kernel_rfl
@[simp] theorem tzero87 : tzero Try.prog 87 = some (Go.Abs.AV.agg [Go.Abs.AV.ptr none, Go.Abs.AV.ptr none, Go.Abs.AV.ptr none, Go.Abs.AV.str []]) := by kernel_rfl
@[simp] theorem tsz88 : tsz Try.prog 88 = some 4 := by kernel_rfl
@[simp] theorem tbytes88 : tbytes Try.prog 88 = some 40 := by kernel_rfl
@[simp] theorem tagg88 : tagg Try.prog 88 = some true := by kernel_rfl
@[simp] theorem tzero88 : tzero Try.prog 88 = some (Go.Abs.AV.agg [Go.Abs.AV.ptr none, Go.Abs.AV.ptr none, Go.Abs.AV.ptr none, Go.Abs.AV.str []]) := by kernel_rfl
@[simp] theorem tsz89 : tsz Try.prog 89 = some 0 := by kernel_rfl
@[simp] theorem tbytes89 : tbytes Try.prog 89 = some 0 := by kernel_rfl
@[simp] theorem tagg89 : tagg Try.prog 89 = some true := by kernel_rfl
@[simp] theorem tzero89 : tzero Try.prog 89 = some (Go.Abs.AV.agg []) := by kernel_rfl
@[simp] theorem isArrT89 : isArrT Try.prog 89 = some 0 := by kernel_rfl
@[simp] theorem elemA89 : elemA Try.prog 89 = some (0, 1) := by kernel_rfl
@[simp] theorem tsz90 : tsz Try.prog 90 = some 0 := by kernel_rfl
@[simp] theorem tbytes90 : tbytes Try.prog 90 = some 0 := by kernel_rfl
@[simp] theorem tagg90 : tagg Try.prog 90 = some true := by kernel_rfl
@[simp] theorem tzero90 : tzero Try.prog 90 = some (Go.Abs.AV.agg []) := by kernel_rfl
@[simp] theorem tsz91 : tsz Try.prog 91 = some 0 := by kernel_rfl
@[simp] theorem tbytes91 : tbytes Try.prog 91 = some 0 := by kernel_rfl
@[simp] theorem tagg91 : tagg Try.prog 91 = some true := by kernel_rfl
@[simp] theorem tzero91 : tzero Try.prog 91 = some (Go.Abs.AV.agg []) := by kernel_rfl
@[simp] theorem tsz92 : tsz Try.prog 92 = some 1 := by kernel_rfl
@[simp] theorem tbytes92 : tbytes Try.prog 92 = some 4 := by kernel_rfl
@[simp] theorem tagg92 : tagg Try.prog 92 = some false := by kernel_rfl
@[simp] theorem tzero92 : tzero Try.prog 92 = some (Go.Abs.AV.int Go.IntKind.u32 0) := by kernel_rfl
@[simp] theorem intT92 : intT Try.prog 92 = some .u32 := by kernel_rfl
@[simp] theorem tsz93 : tsz Try.prog 93 = some 1 := by kernel_rfl
@[simp] theorem tbytes93 : tbytes Try.prog 93 = some 1 := by kernel_rfl
@[simp] theorem tagg93 : tagg Try.prog 93 = some false := by kernel_rfl
@[simp] theorem tzero93 : tzero Try.prog 93 = some (Go.Abs.AV.int Go.IntKind.u8 0) := by kernel_rfl
@[simp] theorem intT93 : intT Try.prog 93 = some .u8 := by kernel_rfl
@[simp] theorem tsz94 : tsz Try.prog 94 = some 1 := by kernel_rfl
@[simp] theorem tbytes94 : tbytes Try.prog 94 = some 1 := by kernel_rfl
@[simp] theorem tagg94 : tagg Try.prog 94 = some false := by kernel_rfl
@[simp] theorem tzero94 : tzero Try.prog 94 = some (Go.Abs.AV.int Go.IntKind.u8 0) := by kernel_rfl
@[simp] theorem intT94 : intT Try.prog 94 = some .u8 := by kernel_rfl
@[simp] theorem tsz96 : tsz Try.prog 96 = some 1 := by kernel_rfl
@[simp] theorem tbytes96 : tbytes Try.prog 96 = some 8 := by kernel_rfl
@[simp] theorem tagg96 : tagg Try.prog 96 = some false := by kernel_rfl
@[simp] theorem tzero96 : tzero Try.prog 96 = some (Go.Abs.AV.ptr none) := by kernel_rfl
@[simp] theorem isPtrT96 : isPtrT Try.prog 96 = true := by kernel_rfl
@[simp] theorem tsz97 : tsz Try.prog 97 = some 1 := by kernel_rfl
@[simp] theorem tbytes97 : tbytes Try.prog 97 = some 4 := by kernel_rfl
@[simp] theorem tagg97 : tagg Try.prog 97 = some false := by kernel_rfl
@[simp] theorem tzero97 : tzero Try.prog 97 = some (Go.Abs.AV.int Go.IntKind.i32 0) := by kernel_rfl
@[simp] theorem intT97 : intT Try.prog 97 = some .i32 := by kernel_rfl
@[simp] theorem tsz98 : tsz Try.prog 98 = some 1 := by kernel_rfl
@[simp] theorem tbytes98 : tbytes Try.prog 98 = some 4 := by kernel_rfl
@[simp] theorem tagg98 : tagg Try.prog 98 = some false := by kernel_rfl
@[simp] theorem tzero98 : tzero Try.prog 98 = some (Go.Abs.AV.int Go.IntKind.i32 0) := by kernel_rfl
@[simp] theorem intT98 : intT Try.prog 98 = some .i32 := by kernel_rfl
@[simp] theorem tsz99 : tsz Try.prog 99 = some 11 := by kernel_rfl
@[simp] theorem tbytes99 : tbytes Try.prog 99 = some 48 := by kernel_rfl
@[simp] theorem tagg99 : tagg Try.prog 99 = some true := by kernel_rfl
@[simp] theorem tzero99 : tzero Try.prog 99 = some (Go.Abs.AV.agg [Go.Abs.AV.int Go.IntKind.u64 0, Go.Abs.AV.int Go.IntKind.u64 0, Go.Abs.AV.int Go.IntKind.u32 0, Go.Abs.AV.int Go.IntKind.u8 0, Go.Abs.AV.int Go.IntKind.u8 0, Go.Abs.AV.int Go.IntKind.u8 0, Go.Abs.AV.int Go.IntKind.u8 0, Go.Abs.AV.nilFunc, Go.Abs.AV.ptr none, Go.Abs.AV.int Go.IntKind.i32 0, Go.Abs.AV.int Go.IntKind.i32 0]) := by kernel_rfl
@[simp] theorem tsz100 : tsz Try.prog 100 = some 11 := by kernel_rfl
@[simp] theorem tbytes100 : tbytes Try.prog 100 = some 48 := by kernel_rfl
@[simp] theorem tagg100 : tagg Try.prog 100 = some true := by kernel_rfl
@[simp] theorem tzero100 : tzero Try.prog 100 = some (Go.Abs.AV.agg [Go.Abs.AV.int Go.IntKind.u64 0, Go.Abs.AV.int Go.IntKind.u64 0, Go.Abs.AV.int Go.IntKind.u32 0, Go.Abs.AV.int Go.IntKind.u8 0, Go.Abs.AV.int Go.IntKind.u8 0, Go.Abs.AV.int Go.IntKind.u8 0, Go.Abs.AV.int Go.IntKind.u8 0, Go.Abs.AV.nilFunc, Go.Abs.AV.ptr none, Go.Abs.AV.int Go.IntKind.i32 0, Go.Abs.AV.int Go.IntKind.i32 0]) := by kernel_rfl
@[simp] theorem tsz101 : tsz Try.prog 101 = some 1 := by kernel_rfl
@[simp] theorem tbytes101 : tbytes Try.prog 101 = some 8 := by kernel_rfl
@[simp] theorem tagg101 : tagg Try.prog 101 = some false := by kernel_rfl
@[simp] theorem tzero101 : tzero Try.prog 101 = some (Go.Abs.AV.ptr none) := by kernel_rfl

end Go.Abs
