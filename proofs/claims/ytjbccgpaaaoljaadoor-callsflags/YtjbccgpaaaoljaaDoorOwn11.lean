/- Texts on this program, joined. -/
import Derived.Test.YtjbccgpaaaoljaaDoorOwn09
import Derived.Test.YtjbccgpaaaoljaaDoorKit10
import Derived.Test.YtjbccgpaaaoljaaDoorKit06
import Derived.Test.YtjbccgpaaaoljaaDoorProg
import Derived.Ground.NamesProg
import Derived.Shelf.Lays
import Derived.KernelRfl

/- Chapter 15: what is told by hand, and the variables that are read. -/
namespace Go.Abs
open Go.Proofs
set_option maxRecDepth 100000
set_option linter.unusedVariables false

def S15 : Stats := [(0, .cells spaceC 5 false false)]
def base15 : Prims := orPrims (seqPrims 118) (orPrims (fieldPrims 24 0 9) (extPrims [(53, ibAV), (48, countAV)]))
end Go.Abs

/- Which functions of the program are those of the library. -/
namespace Go.Proofs
set_option linter.unusedVariables false
open Go.Shelf
def Tryd.lays157_ren : Go.Shelf.Ren := ⟨fun | 157 => 24 | 229 => 31 | 199 => 32 | 261 => 40 | 311 => 45 | 312 => 46 | n => n, fun | 9 => 9 | 31 => 40 | 3 => 3 | 5 => 5 | 4 => 4 | 119 => 54 | 0 => 0 | 40 => 56 | 152 => 66 | 21 => 21 | 154 => 68 | 51 => 26 | 141 => 70 | 196 => 75 | 193 => 72 | 198 => 78 | 49 => 76 | 194 => 73 | 201 => 81 | 226 => 89 | 46 => 58 | 227 => 90 | n => n, fun | 0 => 0 | 6 => 1 | n => n⟩
theorem Tryd.lays157 : Go.Proofs.Lays.n157 Tryd.prog Tryd.lays157_ren := {
  mixed := by kernel_rfl
  f157 := Tryd.func24.trans (congrArg some (by kernel_rfl))
  f199 := Tryd.func32.trans (congrArg some (by kernel_rfl))
  f229 := Tryd.func31.trans (congrArg some (by kernel_rfl))
  f261 := Tryd.func40.trans (congrArg some (by kernel_rfl))
  f311 := Tryd.func45.trans (congrArg some (by kernel_rfl))
  f312 := Tryd.func46.trans (congrArg some (by kernel_rfl))
  t0 := Tryd.underlying0
  a0 := Tryd.isAgg0
  z0 := Tryd.sizeOf0
  v0 := Tryd.zeroValue0
  t3 := Tryd.underlying3
  a3 := Tryd.isAgg3
  z3 := Tryd.sizeOf3
  v3 := Tryd.zeroValue3
  t4 := Tryd.underlying4
  a4 := Tryd.isAgg4
  z4 := Tryd.sizeOf4
  v4 := Tryd.zeroValue4
  t5 := Tryd.underlying5
  a5 := Tryd.isAgg5
  z5 := Tryd.sizeOf5
  v5 := Tryd.zeroValue5
  t9 := Tryd.underlying9
  a9 := Tryd.isAgg9
  z9 := Tryd.sizeOf9
  v9 := Tryd.zeroValue9
  t21 := Tryd.underlying21
  a21 := Tryd.isAgg21
  z21 := Tryd.sizeOf21
  v21 := Tryd.zeroValue21
  t31 := Tryd.underlying40
  a31 := Tryd.isAgg40
  z31 := Tryd.sizeOf40
  v31 := Tryd.zeroValue40
  t40 := Tryd.underlying56
  a40 := Tryd.isAgg56
  z40 := Tryd.sizeOf56
  v40 := Tryd.zeroValue56
  t46 := Tryd.underlying58
  a46 := Tryd.isAgg58
  z46 := Tryd.sizeOf58
  v46 := Tryd.zeroValue58
  t49 := Tryd.underlying76
  a49 := Tryd.isAgg76
  z49 := Tryd.sizeOf76
  v49 := Tryd.zeroValue76
  t51 := Tryd.underlying26
  a51 := Tryd.isAgg26
  z51 := Tryd.sizeOf26
  v51 := Tryd.zeroValue26
  t119 := Tryd.underlying54
  a119 := Tryd.isAgg54
  z119 := Tryd.sizeOf54
  t141 := Tryd.underlying70
  a141 := Tryd.isAgg70
  z141 := Tryd.sizeOf70
  v141 := Tryd.zeroValue70
  t152 := Tryd.underlying66
  a152 := Tryd.isAgg66
  z152 := Tryd.sizeOf66
  v152 := Tryd.zeroValue66
  t154 := Tryd.underlying68
  a154 := Tryd.isAgg68
  z154 := Tryd.sizeOf68
  v154 := Tryd.zeroValue68
  t193 := Tryd.underlying72
  a193 := Tryd.isAgg72
  z193 := Tryd.sizeOf72
  v193 := Tryd.zeroValue72
  t194 := Tryd.underlying73
  a194 := Tryd.isAgg73
  z194 := Tryd.sizeOf73
  v194 := Tryd.zeroValue73
  t196 := Tryd.underlying75
  a196 := Tryd.isAgg75
  z196 := Tryd.sizeOf75
  v196 := Tryd.zeroValue75
  t198 := Tryd.underlying78
  a198 := Tryd.isAgg78
  z198 := Tryd.sizeOf78
  v198 := Tryd.zeroValue78
  t201 := Tryd.underlying81
  a201 := Tryd.isAgg81
  z201 := Tryd.sizeOf81
  v201 := Tryd.zeroValue81
  t226 := Tryd.underlying89
  a226 := Tryd.isAgg89
  z226 := Tryd.sizeOf89
  v226 := Tryd.zeroValue89
  t227 := Tryd.underlying90
  a227 := Tryd.isAgg90
  z227 := Tryd.sizeOf90
  v227 := Tryd.zeroValue90
  g0 := by kernel_rfl
  g6 := by kernel_rfl }
end Go.Proofs

/- Chapter 15: what is told by hand is so. -/
namespace Go.Proofs
set_option linter.unusedVariables false
open Go.Shelf Go.Abs
theorem Tryd.mixed15 : Tryd.prog.follows .mixedOrders = true := by kernel_rfl
theorem Tryd.plain15 : plainNames Tryd.prog = true := by kernel_rfl
theorem Tryd.says53 : ExtSays Tryd.prog 53 ibAV := says_ib Tryd.func53 (by kernel_rfl) (by kernel_rfl) (by kernel_rfl) (by kernel_rfl)
theorem Tryd.says48 : ExtSays Tryd.prog 48 countAV := says_count Tryd.func48 (by kernel_rfl) (by kernel_rfl) (by kernel_rfl) (by kernel_rfl)
theorem Tryd.pbOk : PrimsOk Tryd.prog pb15 := extPrims_ok (by intro p hp; simp at hp; subst hp; exact Tryd.says53)
theorem Tryd.split36 : SplitSays Tryd.prog 36 := fun h12 h13 h23 l1 l2 l3 hl hJ hJx hr hS hus h0 => split_walk Tryd.pbOk (extPrims_rl _) Tryd.mixed15 Tryd.plain15 h12 h13 h23 l1 l2 l3 hl hJ hJx hr hS hus h0
theorem Tryd.baseOk : PrimsOk Tryd.prog base15 :=
  orPrims_ok (seqPrims_ok (gf := 36) (by kernel_rfl) Tryd.func36 (by kernel_rfl) (by kernel_rfl) Tryd.split36)
    (orPrims_ok (fieldPrims_ok Tryd.lays157 (by kernel_rfl) (by kernel_rfl) (by kernel_rfl) (of_decide_eq_true (by kernel_rfl)) Tryd.func24 (by kernel_rfl) (by kernel_rfl))
      (extPrims_ok (by intro p hp; simp at hp; rcases hp with rfl | rfl <;> first | exact Tryd.says53 | exact Tryd.says48)))
theorem Tryd.baseRl : PrimsRl base15 := orPrims_rl (seqPrims_rl _) (orPrims_rl (fieldPrims_rl _ _ _) (extPrims_rl _))
end Go.Proofs
