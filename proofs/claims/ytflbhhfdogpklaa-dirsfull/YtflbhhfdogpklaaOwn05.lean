/- Texts on this program, joined. -/
import Derived.Test.YtflbhhfdogpklaaProg
import Derived.Ground.NamesProg
import Derived.Shelf.Lays

/- Which functions of the program are those of the library. -/
namespace Go.Proofs
set_option linter.unusedVariables false
open Go.Shelf
def Try.lays150_ren : Go.Shelf.Ren := ⟨fun | 150 => 30 | 153 => 36 | 152 => 39 | 226 => 40 | 227 => 41 | 228 => 42 | 137 => 45 | 119 => 46 | 224 => 47 | 225 => 48 | 217 => 49 | 266 => 50 | n => n, fun | 9 => 9 | 4 => 4 | 3 => 3 | 5 => 5 | 21 => 21 | 117 => 78 | 116 => 77 | 0 => 0 | 46 => 73 | 124 => 85 | n => n, fun | n => n⟩
theorem Try.lays150 : Go.Proofs.Lays.n150 Try.prog Try.lays150_ren := {
  mixed := by kernel_rfl
  f119 := Try.func46.trans (congrArg some (by kernel_rfl))
  f137 := Try.func45.trans (congrArg some (by kernel_rfl))
  f150 := Try.func30.trans (congrArg some (by kernel_rfl))
  f152 := Try.func39.trans (congrArg some (by kernel_rfl))
  f153 := Try.func36.trans (congrArg some (by kernel_rfl))
  f217 := Try.func49.trans (congrArg some (by kernel_rfl))
  f224 := Try.func47.trans (congrArg some (by kernel_rfl))
  f225 := Try.func48.trans (congrArg some (by kernel_rfl))
  f226 := Try.func40.trans (congrArg some (by kernel_rfl))
  f227 := Try.func41.trans (congrArg some (by kernel_rfl))
  f228 := Try.func42.trans (congrArg some (by kernel_rfl))
  f266 := Try.func50.trans (congrArg some (by kernel_rfl))
  t0 := Try.underlying0
  a0 := Try.isAgg0
  z0 := Try.sizeOf0
  v0 := Try.zeroValue0
  t3 := Try.underlying3
  a3 := Try.isAgg3
  z3 := Try.sizeOf3
  v3 := Try.zeroValue3
  t4 := Try.underlying4
  a4 := Try.isAgg4
  z4 := Try.sizeOf4
  v4 := Try.zeroValue4
  t5 := Try.underlying5
  a5 := Try.isAgg5
  z5 := Try.sizeOf5
  v5 := Try.zeroValue5
  t9 := Try.underlying9
  a9 := Try.isAgg9
  z9 := Try.sizeOf9
  v9 := Try.zeroValue9
  t21 := Try.underlying21
  a21 := Try.isAgg21
  z21 := Try.sizeOf21
  v21 := Try.zeroValue21
  t46 := Try.underlying73
  a46 := Try.isAgg73
  z46 := Try.sizeOf73
  v46 := Try.zeroValue73
  t116 := Try.underlying77
  a116 := Try.isAgg77
  z116 := Try.sizeOf77
  t117 := Try.underlying78
  a117 := Try.isAgg78
  z117 := Try.sizeOf78
  v117 := Try.zeroValue78
  t124 := Try.underlying85
  a124 := Try.isAgg85
  z124 := Try.sizeOf85
  v124 := Try.zeroValue85 }
end Go.Proofs
