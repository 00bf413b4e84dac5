/- Texts on this program, joined. -/
import Derived.Test.YtdndkchlkgldmaaProg
import Derived.Ground.NamesProg
import Derived.Shelf.Lays

/- Which functions of the program are those of the library. -/
namespace Go.Proofs
set_option linter.unusedVariables false
open Go.Shelf
def Try.lays150_ren : Go.Shelf.Ren := ⟨fun | 150 => 25 | 153 => 37 | 152 => 45 | 226 => 46 | 227 => 47 | 228 => 48 | 137 => 52 | 119 => 53 | 224 => 54 | 225 => 55 | 217 => 56 | 266 => 60 | n => n, fun | 9 => 9 | 4 => 4 | 3 => 3 | 5 => 5 | 21 => 21 | 117 => 68 | 116 => 67 | 0 => 0 | 46 => 74 | 124 => 75 | n => n, fun | n => n⟩
theorem Try.lays150 : Go.Proofs.Lays.n150 Try.prog Try.lays150_ren := {
  mixed := by kernel_rfl
  f119 := Try.func53.trans (congrArg some (by kernel_rfl))
  f137 := Try.func52.trans (congrArg some (by kernel_rfl))
  f150 := Try.func25.trans (congrArg some (by kernel_rfl))
  f152 := Try.func45.trans (congrArg some (by kernel_rfl))
  f153 := Try.func37.trans (congrArg some (by kernel_rfl))
  f217 := Try.func56.trans (congrArg some (by kernel_rfl))
  f224 := Try.func54.trans (congrArg some (by kernel_rfl))
  f225 := Try.func55.trans (congrArg some (by kernel_rfl))
  f226 := Try.func46.trans (congrArg some (by kernel_rfl))
  f227 := Try.func47.trans (congrArg some (by kernel_rfl))
  f228 := Try.func48.trans (congrArg some (by kernel_rfl))
  f266 := Try.func60.trans (congrArg some (by kernel_rfl))
  t0 := Try.underlying0
  a0 := Try.isAgg0
  z0 := Try.sizeOf0
  v0 := Try.zeroValue0
  t3 := Try.underlying3
  a3 := Try.isAgg3
  z3 := Try.sizeOf3
  v3 := Try.zeroValue3
  t4 := Try.underlying4
  a4 := Try.isAgg4
  z4 := Try.sizeOf4
  v4 := Try.zeroValue4
  t5 := Try.underlying5
  a5 := Try.isAgg5
  z5 := Try.sizeOf5
  v5 := Try.zeroValue5
  t9 := Try.underlying9
  a9 := Try.isAgg9
  z9 := Try.sizeOf9
  v9 := Try.zeroValue9
  t21 := Try.underlying21
  a21 := Try.isAgg21
  z21 := Try.sizeOf21
  v21 := Try.zeroValue21
  t46 := Try.underlying74
  a46 := Try.isAgg74
  z46 := Try.sizeOf74
  v46 := Try.zeroValue74
  t116 := Try.underlying67
  a116 := Try.isAgg67
  z116 := Try.sizeOf67
  t117 := Try.underlying68
  a117 := Try.isAgg68
  z117 := Try.sizeOf68
  v117 := Try.zeroValue68
  t124 := Try.underlying75
  a124 := Try.isAgg75
  z124 := Try.sizeOf75
  v124 := Try.zeroValue75 }
end Go.Proofs
