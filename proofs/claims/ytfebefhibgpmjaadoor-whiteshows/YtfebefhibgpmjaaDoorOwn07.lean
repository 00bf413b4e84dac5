/- Texts on this program, joined. -/
import Derived.Test.YtfebefhibgpmjaaDoorOwn05
import Derived.Test.YtfebefhibgpmjaaDoorKit06
import Derived.Test.YtfebefhibgpmjaaDoorKit04
import Derived.KernelRfl
import Derived.Test.YtfebefhibgpmjaaDoorProg
import Derived.Ground.NamesProg
import Derived.Shelf.Lays
import Derived.Test.YtfebefhibgpmjaaDoorRows
import Derived.Test.YtfebefhibgpmjaaDoorTie
import Derived.Test.YtfebefhibgpmjaaDoorCards
import Derived.WalkKit
import Derived.ProofKit
import Derived.OpenShut
import Derived.ShutString
import Derived.ChangeOld
import Derived.Below
import Derived.Lib.LaidU8
import Derived.PinnedBridge
import Derived.Lay
import Derived.LaidOnce
import Derived.SevenTiedAt

/- Chapter 02: WhiteMasks, walked. -/
namespace Go.Abs
open Go.Proofs
set_option maxRecDepth 100000
set_option linter.unusedVariables false
set_option linter.unusedSimpArgs false

def S02 : Stats := []
def base02 : Prims := memPrims [(36, joinAV)]
noncomputable def pr02 : Prims := orPrims (sortPrims 47) (orPrims (fmtPrims 62) (orPrims (extPrims [(75, lenAV), (60, smallAV)]) (relocPrims Tryd.prog base02 S02 [12])))
theorem lain0 (H : Heap) : Lain S02 H := by intro p hp; cases hp
theorem run12 : ((acall Tryd.prog base02 60 12 [] (Heap.startS Tryd.prog.globals.size S02)).map fun r => sameAV r.1 (.bool true)) = some true := by kernel_rfl
theorem lives_ok (H : Heap) : Cl Tryd.prog pr02 12 [] H fun v H' => v = .bool true ∧ H' = H := by
  obtain ⟨n, H1, h⟩ := runs_on run12
  exact Cl.prim (v := .bool true) (H' := H) (g := relocP Tryd.prog base02 S02 12) rfl (relocP_flat rfl (lain0 H) rfl h) ⟨rfl, rfl⟩
theorem bit39_ok (n : Int) (i : Nat) (hi : i < 64) (H : Heap) : Cl Tryd.prog pr02 39 [.int .i64 n, .int .i64 i] H fun v H' => v = .bool (bitN n i) ∧ H' = H := by
  have hw : IntKind.u64.wrap (i : Int) = i := by simp [IntKind.wrap, IntKind.signed, IntKind.bits]; omega
  refine Cl.enter Tryd.func39 rfl rfl Tryd.ntmps39 (by simp) ?_
  refine walk hw ?_
  rw [fdiv_bit n i hi]
  exact ⟨rfl, rfl⟩
def offM (i : Nat) : Bool := decide (i < 3 ∨ 6 < i)
def maskBad (o m : Int) : Prop := ∃ i < 64, offM i = true ∧ (bitN o i || bitN m i) = true
def maskOver (o m : Int) : Prop := ∃ i < 64, bitN m i = true ∧ bitN o i = false
open Classical in
noncomputable def maskR (o m : Int) : Int × Int := if maskBad o m then (0, 22) else if maskOver o m then (0, 93) else (m, 0)
theorem mask120 : ((List.range 64).all fun i => ((120 % 2 ^ IntKind.i64.bits : Nat).testBit i) == !(offM i)) = true := by kernel_rfl
theorem bad_fact (o m : Int) : (IntKind.i64.wrap (((IntKind.i64.wrap (((o % 2 ^ IntKind.i64.bits).toNat ||| (m % 2 ^ IntKind.i64.bits).toNat : Nat) : Int) % 2 ^ IntKind.i64.bits).toNat &&& 2 ^ IntKind.i64.bits - 1 - 120 % 2 ^ IntKind.i64.bits : Nat) : Int) = 0) = ¬ maskBad o m := by
  have h := andNot_zero (IntKind.i64.wrap (((o % 2 ^ IntKind.i64.bits).toNat ||| (m % 2 ^ IntKind.i64.bits).toNat : Nat) : Int)) 120
  have e : ((120 : Int) % 2 ^ IntKind.i64.bits).toNat = 120 % 2 ^ IntKind.i64.bits := by decide
  rw [e] at h
  rw [h, eq_iff_iff]
  have hb : ∀ i < 64, bitN 120 i = !(offM i) := fun i hi => by
    unfold bitN
    rw [e]
    exact beq_iff_eq.1 (List.all_eq_true.1 mask120 i (List.mem_range.2 hi))
  unfold maskBad
  constructor
  · rintro h1 ⟨i, hi, h2, h3⟩
    have := h1 i hi (by rw [or_bit]; exact h3)
    rw [hb i hi, h2] at this
    cases this
  · intro h1 i hi h2
    rw [or_bit] at h2
    rw [hb i hi]
    cases h3 : offM i with
    | false => rfl
    | true => exact absurd ⟨i, hi, h3, h2⟩ h1
theorem over_fact (o m : Int) : (IntKind.i64.wrap (((m % 2 ^ IntKind.i64.bits).toNat &&& 2 ^ IntKind.i64.bits - 1 - (o % 2 ^ IntKind.i64.bits).toNat : Nat) : Int) = 0) = ¬ maskOver o m := by
  rw [andNot_zero, eq_iff_iff]
  unfold maskOver
  constructor
  · rintro h1 ⟨i, hi, h2, h3⟩
    have := h1 i hi h2
    rw [this] at h3
    cases h3
  · intro h1 i hi h2
    cases h3 : bitN o i with
    | true => rfl
    | false => exact absurd ⟨i, hi, h2, h3⟩ h1
theorem mask_ok (o m : Int) (H : Heap) : Cl Tryd.prog pr02 21 [.int .i64 o, .int .i64 m] H fun v H' => v = .tuple [.int .i64 (maskR o m).1, .int .i64 (maskR o m).2] ∧ H' = H := by
  have f1 := bad_fact o m
  have f2 := over_fact o m
  unfold maskR
  refine Cl.enter Tryd.func21 rfl rfl Tryd.ntmps21 (by simp) ?_
  by_cases h1 : maskBad o m
  · have f1 := f1.trans (eq_false (fun h => h h1))
    rw [if_pos h1]
    refine walk f1 ?_
    exact ⟨rfl, rfl⟩
  · have f1 := f1.trans (eq_true h1)
    rw [if_neg h1]
    by_cases h2 : maskOver o m
    · have f2 := f2.trans (eq_false (fun h => h h2))
      rw [if_pos h2]
      refine walk (both f1 f2) ?_
      exact ⟨rfl, rfl⟩
    · have f2 := f2.trans (eq_true h2)
      rw [if_neg h2]
      refine walk (both f1 f2) ?_
      exact ⟨rfl, rfl⟩
end Go.Abs

/- Which functions of the program are those of the library. -/
namespace Go.Proofs
set_option linter.unusedVariables false
open Go.Shelf
def Tryd.lays156_ren : Go.Shelf.Ren := ⟨fun | 156 => 36 | 165 => 43 | 166 => 44 | 169 => 45 | 240 => 54 | 241 => 55 | 276 => 64 | 277 => 65 | n => n, fun | 31 => 45 | 9 => 9 | 3 => 3 | 4 => 4 | 0 => 0 | 20 => 20 | 72 => 53 | 76 => 57 | 70 => 50 | 37 => 51 | 75 => 56 | 127 => 65 | 164 => 75 | 5 => 5 | 80 => 59 | n => n, fun | n => n⟩
theorem Tryd.lays156 : Go.Proofs.Lays.n156 Tryd.prog Tryd.lays156_ren := {
  mixed := by kernel_rfl
  f156 := Tryd.func36.trans (congrArg some (by kernel_rfl))
  f165 := Tryd.func43.trans (congrArg some (by kernel_rfl))
  f166 := Tryd.func44.trans (congrArg some (by kernel_rfl))
  f169 := Tryd.func45.trans (congrArg some (by kernel_rfl))
  f240 := Tryd.func54.trans (congrArg some (by kernel_rfl))
  f241 := Tryd.func55.trans (congrArg some (by kernel_rfl))
  f276 := Tryd.func64.trans (congrArg some (by kernel_rfl))
  f277 := Tryd.func65.trans (congrArg some (by kernel_rfl))
  t0 := Tryd.underlying0
  a0 := Tryd.isAgg0
  z0 := Tryd.sizeOf0
  v0 := Tryd.zeroValue0
  t3 := Tryd.underlying3
  a3 := Tryd.isAgg3
  z3 := Tryd.sizeOf3
  v3 := Tryd.zeroValue3
  t4 := Tryd.underlying4
  a4 := Tryd.isAgg4
  z4 := Tryd.sizeOf4
  v4 := Tryd.zeroValue4
  t9 := Tryd.underlying9
  a9 := Tryd.isAgg9
  z9 := Tryd.sizeOf9
  v9 := Tryd.zeroValue9
  t20 := Tryd.underlying20
  a20 := Tryd.isAgg20
  z20 := Tryd.sizeOf20
  v20 := Tryd.zeroValue20
  t31 := Tryd.underlying45
  a31 := Tryd.isAgg45
  z31 := Tryd.sizeOf45
  v31 := Tryd.zeroValue45
  t37 := Tryd.underlying51
  a37 := Tryd.isAgg51
  z37 := Tryd.sizeOf51
  v37 := Tryd.zeroValue51
  t70 := Tryd.underlying50
  a70 := Tryd.isAgg50
  z70 := Tryd.sizeOf50
  v70 := Tryd.zeroValue50
  t72 := Tryd.underlying53
  a72 := Tryd.isAgg53
  z72 := Tryd.sizeOf53
  v72 := Tryd.zeroValue53
  t75 := Tryd.underlying56
  a75 := Tryd.isAgg56
  z75 := Tryd.sizeOf56
  v75 := Tryd.zeroValue56
  t76 := Tryd.underlying57
  a76 := Tryd.isAgg57
  z76 := Tryd.sizeOf57
  v76 := Tryd.zeroValue57
  t127 := Tryd.underlying65
  a127 := Tryd.isAgg65
  z127 := Tryd.sizeOf65
  v127 := Tryd.zeroValue65
  t164 := Tryd.underlying75
  a164 := Tryd.isAgg75
  z164 := Tryd.sizeOf75
  v164 := Tryd.zeroValue75 }
def Tryd.lays189_ren : Go.Shelf.Ren := ⟨fun | 189 => 47 | 125 => 57 | 257 => 56 | 128 => 74 | 129 => 75 | 294 => 66 | 295 => 67 | 296 => 68 | 297 => 69 | 298 => 70 | 299 => 71 | 216 => 51 | 300 => 72 | 301 => 73 | 328 => 80 | 329 => 81 | 330 => 82 | 331 => 83 | 332 => 84 | 215 => 59 | 343 => 87 | n => n, fun | 28 => 22 | 3 => 3 | 46 => 61 | 0 => 0 | 51 => 86 | 53 => 70 | 4 => 4 | 183 => 80 | 182 => 79 | 131 => 48 | 5 => 5 | 9 => 9 | 218 => 91 | 222 => 95 | 228 => 97 | 229 => 98 | n => n, fun | n => n⟩
theorem Tryd.lays189 : Go.Proofs.Lays.n189 Tryd.prog Tryd.lays189_ren := {
  mixed := by kernel_rfl
  f125 := Tryd.func57.trans (congrArg some (by kernel_rfl))
  f128 := Tryd.func74.trans (congrArg some (by kernel_rfl))
  f129 := Tryd.func75.trans (congrArg some (by kernel_rfl))
  f189 := Tryd.func47.trans (congrArg some (by kernel_rfl))
  f215 := Tryd.func59.trans (congrArg some (by kernel_rfl))
  f216 := Tryd.func51.trans (congrArg some (by kernel_rfl))
  f257 := Tryd.func56.trans (congrArg some (by kernel_rfl))
  f294 := Tryd.func66.trans (congrArg some (by kernel_rfl))
  f295 := Tryd.func67.trans (congrArg some (by kernel_rfl))
  f296 := Tryd.func68.trans (congrArg some (by kernel_rfl))
  f297 := Tryd.func69.trans (congrArg some (by kernel_rfl))
  f298 := Tryd.func70.trans (congrArg some (by kernel_rfl))
  f299 := Tryd.func71.trans (congrArg some (by kernel_rfl))
  f300 := Tryd.func72.trans (congrArg some (by kernel_rfl))
  f301 := Tryd.func73.trans (congrArg some (by kernel_rfl))
  f328 := Tryd.func80.trans (congrArg some (by kernel_rfl))
  f329 := Tryd.func81.trans (congrArg some (by kernel_rfl))
  f330 := Tryd.func82.trans (congrArg some (by kernel_rfl))
  f331 := Tryd.func83.trans (congrArg some (by kernel_rfl))
  f332 := Tryd.func84.trans (congrArg some (by kernel_rfl))
  f343 := Tryd.func87.trans (congrArg some (by kernel_rfl))
  t0 := Tryd.underlying0
  a0 := Tryd.isAgg0
  z0 := Tryd.sizeOf0
  v0 := Tryd.zeroValue0
  t3 := Tryd.underlying3
  a3 := Tryd.isAgg3
  z3 := Tryd.sizeOf3
  v3 := Tryd.zeroValue3
  t4 := Tryd.underlying4
  a4 := Tryd.isAgg4
  z4 := Tryd.sizeOf4
  v4 := Tryd.zeroValue4
  t5 := Tryd.underlying5
  a5 := Tryd.isAgg5
  z5 := Tryd.sizeOf5
  v5 := Tryd.zeroValue5
  t9 := Tryd.underlying9
  a9 := Tryd.isAgg9
  z9 := Tryd.sizeOf9
  v9 := Tryd.zeroValue9
  t28 := Tryd.underlying22
  a28 := Tryd.isAgg22
  z28 := Tryd.sizeOf22
  v28 := Tryd.zeroValue22
  t46 := Tryd.underlying61
  a46 := Tryd.isAgg61
  z46 := Tryd.sizeOf61
  v46 := Tryd.zeroValue61
  t51 := Tryd.underlying86
  a51 := Tryd.isAgg86
  z51 := Tryd.sizeOf86
  v51 := Tryd.zeroValue86
  t53 := Tryd.underlying70
  a53 := Tryd.isAgg70
  z53 := Tryd.sizeOf70
  v53 := Tryd.zeroValue70
  t131 := Tryd.underlying48
  a131 := Tryd.isAgg48
  z131 := Tryd.sizeOf48
  v131 := Tryd.zeroValue48
  t182 := Tryd.underlying79
  a182 := Tryd.isAgg79
  z182 := Tryd.sizeOf79
  v182 := Tryd.zeroValue79
  t183 := Tryd.underlying80
  a183 := Tryd.isAgg80
  z183 := Tryd.sizeOf80
  v183 := Tryd.zeroValue80
  t218 := Tryd.underlying91
  a218 := Tryd.isAgg91
  z218 := Tryd.sizeOf91
  v218 := Tryd.zeroValue91
  t222 := Tryd.underlying95
  a222 := Tryd.isAgg95
  z222 := Tryd.sizeOf95
  v222 := Tryd.zeroValue95
  t228 := Tryd.underlying97
  a228 := Tryd.isAgg97
  z228 := Tryd.sizeOf97
  v228 := Tryd.zeroValue97
  t229 := Tryd.underlying98
  a229 := Tryd.isAgg98
  z229 := Tryd.sizeOf98
  v229 := Tryd.zeroValue98 }
def Tryd.lays129_ren : Go.Shelf.Ren := ⟨fun | 129 => 75 | n => n, fun | 53 => 70 | 3 => 3 | 4 => 4 | 46 => 61 | 5 => 5 | 9 => 9 | n => n, fun | n => n⟩
theorem Tryd.lays129 : Go.Proofs.Lays.n129 Tryd.prog Tryd.lays129_ren := {
  mixed := by kernel_rfl
  f129 := Tryd.func75.trans (congrArg some (by kernel_rfl))
  t3 := Tryd.underlying3
  a3 := Tryd.isAgg3
  z3 := Tryd.sizeOf3
  v3 := Tryd.zeroValue3
  t4 := Tryd.underlying4
  a4 := Tryd.isAgg4
  z4 := Tryd.sizeOf4
  v4 := Tryd.zeroValue4
  t5 := Tryd.underlying5
  a5 := Tryd.isAgg5
  z5 := Tryd.sizeOf5
  v5 := Tryd.zeroValue5
  t9 := Tryd.underlying9
  a9 := Tryd.isAgg9
  z9 := Tryd.sizeOf9
  v9 := Tryd.zeroValue9
  t46 := Tryd.underlying61
  a46 := Tryd.isAgg61
  z46 := Tryd.sizeOf61
  v46 := Tryd.zeroValue61
  t53 := Tryd.underlying70
  a53 := Tryd.isAgg70
  z53 := Tryd.sizeOf70
  v53 := Tryd.zeroValue70 }
def Tryd.lays283_ren : Go.Shelf.Ren := ⟨fun | 283 => 60 | n => n, fun | 3 => 3 | 9 => 9 | 4 => 4 | n => n, fun | n => n⟩
theorem Tryd.lays283 : Go.Proofs.Lays.n283 Tryd.prog Tryd.lays283_ren := {
  mixed := by kernel_rfl
  f283 := Tryd.func60.trans (congrArg some (by kernel_rfl))
  t3 := Tryd.underlying3
  a3 := Tryd.isAgg3
  z3 := Tryd.sizeOf3
  v3 := Tryd.zeroValue3
  t4 := Tryd.underlying4
  a4 := Tryd.isAgg4
  z4 := Tryd.sizeOf4
  v4 := Tryd.zeroValue4
  t9 := Tryd.underlying9
  a9 := Tryd.isAgg9
  z9 := Tryd.sizeOf9
  v9 := Tryd.zeroValue9 }
def Tryd.lays285_ren : Go.Shelf.Ren := ⟨fun | 285 => 62 | n => n, fun | 37 => 51 | 53 => 70 | 3 => 3 | 4 => 4 | 51 => 86 | 9 => 9 | 5 => 5 | 0 => 0 | n => n, fun | n => n⟩
theorem Tryd.lays285 : Go.Proofs.Lays.n285 Tryd.prog Tryd.lays285_ren := {
  mixed := by kernel_rfl
  f285 := Tryd.func62.trans (congrArg some (by kernel_rfl))
  t0 := Tryd.underlying0
  a0 := Tryd.isAgg0
  z0 := Tryd.sizeOf0
  v0 := Tryd.zeroValue0
  t3 := Tryd.underlying3
  a3 := Tryd.isAgg3
  z3 := Tryd.sizeOf3
  v3 := Tryd.zeroValue3
  t4 := Tryd.underlying4
  a4 := Tryd.isAgg4
  z4 := Tryd.sizeOf4
  v4 := Tryd.zeroValue4
  t5 := Tryd.underlying5
  a5 := Tryd.isAgg5
  z5 := Tryd.sizeOf5
  v5 := Tryd.zeroValue5
  t9 := Tryd.underlying9
  a9 := Tryd.isAgg9
  z9 := Tryd.sizeOf9
  v9 := Tryd.zeroValue9
  t37 := Tryd.underlying51
  a37 := Tryd.isAgg51
  z37 := Tryd.sizeOf51
  v37 := Tryd.zeroValue51
  t51 := Tryd.underlying86
  a51 := Tryd.isAgg86
  z51 := Tryd.sizeOf86
  v51 := Tryd.zeroValue86
  t53 := Tryd.underlying70
  a53 := Tryd.isAgg70
  z53 := Tryd.sizeOf70
  v53 := Tryd.zeroValue70 }
end Go.Proofs

/- Chapter 02: what is told by hand is so. -/
namespace Go.Proofs
set_option linter.unusedVariables false
open Go.Shelf Go.Abs
theorem Tryd.mixed02 : Tryd.prog.follows .mixedOrders = true := by kernel_rfl
theorem Tryd.plain02 : plainNames Tryd.prog = true := by kernel_rfl
theorem Tryd.extra156 : Builder.Extra Tryd.prog Tryd.lays156_ren := {
  sizeBuilder := by kernel_rfl
  liesBuilder := by kernel_rfl
  t5 := Tryd.underlying5
  a5 := Tryd.isAgg5
  z5 := Tryd.sizeOf5
  v5 := Tryd.zeroValue5
  infoByte := by kernel_rfl
  cellsByte := by kernel_rfl
  sizeByte := by kernel_rfl
  neB5 := by decide }
theorem Tryd.says36 : MemSays Tryd.prog 36 joinAV := says_join Tryd.lays156 Tryd.extra156 (by kernel_rfl) Tryd.func36 (by kernel_rfl) (by kernel_rfl)
theorem Tryd.baseOk : PrimsOk Tryd.prog base02 := memPrims_ok (by intro p hp; simp at hp; subst hp; exact Tryd.says36)
theorem Tryd.sortOk : PrimsOk Tryd.prog (sortPrims 47) := sortPrims_ok Tryd.lays189 (by kernel_rfl) Tryd.func47 (by kernel_rfl) (by kernel_rfl)
theorem Tryd.fmtOk : PrimsOk Tryd.prog (fmtPrims 62) := fmtPrims_ok Tryd.lays285 (by kernel_rfl) Tryd.func62 (by kernel_rfl) (by kernel_rfl)
theorem Tryd.lenOk : PrimsOk Tryd.prog (extPrims [(75, lenAV), (60, smallAV)]) := bodyPrims_ok (by intro p hp; simp at hp; rcases hp with rfl | rfl <;> first | exact says_len Tryd.lays129 (by kernel_rfl) Tryd.func75 (by kernel_rfl) (by kernel_rfl) | exact says_small Tryd.lays283 (by kernel_rfl) Tryd.func60 (by kernel_rfl) (by kernel_rfl))
theorem Tryd.baseRl : PrimsRl base02 := memPrims_rl _
end Go.Proofs

/- Chapter 02: WhiteMasks, the reference walked. -/
namespace Go.Abs
open Go.Proofs
set_option maxRecDepth 100000
set_option linter.unusedVariables false
set_option linter.unusedSimpArgs false

theorem lt_step {p : Nat → Prop} {i : Nat} (h : ∀ j < i, p j) (hi : p i) : ∀ j < i + 1, p j := fun j hj => by
  rcases Nat.lt_or_ge j i with h' | h'
  · exact h j h'
  · obtain rfl : j = i := by omega
    exact hi
theorem refMask_ok (o m : Int) (H : Heap) : Cl Tryd.prog pr02 22 [.int .i64 o, .int .i64 m] H fun v H' => v = .tuple [.int .i64 (maskR o m).1, .int .i64 (maskR o m).2] ∧ H' = H := by
  refine Cl.enter Tryd.func22 rfl rfl Tryd.ntmps22 (by simp) ?_
  refine walk none0 ?_
  refine Wq.loop (fun k e H' => ∃ i : Nat, i ≤ 64 ∧ k = 64 - i ∧ H' = H ∧ e 0 = .int .i64 o ∧ e 1 = .int .i64 m ∧ e 6 = .int .i64 i ∧ ∀ j < i, ¬ (offM j = true ∧ (bitN o j || bitN m j) = true)) 64 ?_ ?_
  · exact ⟨0, by omega, by omega, rfl, by simp, by simp, by simp, fun j hj => by omega⟩
  · rintro k e H' ⟨i, hi, rfl, rfl, e0, e1, e6, hlo⟩
    by_cases hlt : i < 64
    · have hltI : (i : Int) < 64 := by omega
      have bad : offM i = true → (bitN o i || bitN m i) = true → maskR o m = (0, 22) := fun h1 h2 => by
        unfold maskR; rw [if_pos ⟨i, hlt, h1, h2⟩]
      by_cases h3 : i < 3
      · have h3 : (i : Int) < 3 := by omega
        have h6 : True := trivial
        have hoff : offM i = true := decide_eq_true (.inl (by omega))
        refine walk (both e0 (both e1 (both e6 (both hltI (both h3 h6))))) ?_
        refine (bit39_ok o i hlt H').mono fun v H1 _ ⟨ea, eb⟩ => ?_
        subst ea; subst eb
        cases hb : bitN o i with
        | true =>
          have hr := bad hoff (by rw [hb]; rfl)
          rw [hr]
          refine walk (both e0 (both e1 e6)) ?_
          exact ⟨rfl, rfl⟩
        | false =>
          refine walk (both e0 (both e1 e6)) ?_
          refine (bit39_ok m i hlt H1).mono fun v H2 _ ⟨ea, eb⟩ => ?_
          subst ea; subst eb
          cases hb2 : bitN m i with
          | true =>
            have hr := bad hoff (by rw [hb, hb2]; rfl)
            rw [hr]
            refine walk (both e0 (both e1 e6)) ?_
            exact ⟨rfl, rfl⟩
          | false =>
            refine walk (both e0 (both e1 e6)) ?_
            exact Roundq.normal (64 - (i + 1)) (by omega) ⟨i + 1, by omega, rfl, rfl, by simp [e0], by simp [e1], by simp, lt_step hlo (fun h => by rw [hb, hb2] at h; exact absurd h.2 (by simp))⟩
      · have h3 : ¬ (i : Int) < 3 := by omega
        by_cases h6 : 6 < i
        · have h6 : 6 < (i : Int) := by omega
          have hoff : offM i = true := decide_eq_true (.inr (by omega))
          refine walk (both e0 (both e1 (both e6 (both hltI (both h3 h6))))) ?_
          refine (bit39_ok o i hlt H').mono fun v H1 _ ⟨ea, eb⟩ => ?_
          subst ea; subst eb
          cases hb : bitN o i with
          | true =>
            have hr := bad hoff (by rw [hb]; rfl)
            rw [hr]
            refine walk (both e0 (both e1 e6)) ?_
            exact ⟨rfl, rfl⟩
          | false =>
            refine walk (both e0 (both e1 e6)) ?_
            refine (bit39_ok m i hlt H1).mono fun v H2 _ ⟨ea, eb⟩ => ?_
            subst ea; subst eb
            cases hb2 : bitN m i with
            | true =>
              have hr := bad hoff (by rw [hb, hb2]; rfl)
              rw [hr]
              refine walk (both e0 (both e1 e6)) ?_
              exact ⟨rfl, rfl⟩
            | false =>
              refine walk (both e0 (both e1 e6)) ?_
              exact Roundq.normal (64 - (i + 1)) (by omega) ⟨i + 1, by omega, rfl, rfl, by simp [e0], by simp [e1], by simp, lt_step hlo (fun h => by rw [hb, hb2] at h; exact absurd h.2 (by simp))⟩
        · have h6 : ¬ 6 < (i : Int) := by omega
          have hoff : offM i = false := decide_eq_false (by omega)
          refine walk (both e0 (both e1 (both e6 (both hltI (both h3 h6))))) ?_
          exact Roundq.normal (64 - (i + 1)) (by omega) ⟨i + 1, by omega, rfl, rfl, by simp [e0], by simp [e1], by simp, lt_step hlo (fun h => by rw [hoff] at h; exact absurd h.1 (by simp))⟩
    · obtain rfl : i = 64 := by omega
      have hnb : ¬ maskBad o m := fun ⟨i, hi, h⟩ => hlo i hi h
      refine walk (both e0 (both e1 e6)) ?_
      refine Wq.loop (fun k e H2 => ∃ i : Nat, i ≤ 64 ∧ k = 64 - i ∧ H2 = H' ∧ e 0 = .int .i64 o ∧ e 1 = .int .i64 m ∧ e 7 = .int .i64 i ∧ ∀ j < i, ¬ (bitN m j = true ∧ bitN o j = false)) 64 ?_ ?_
      · exact ⟨0, by omega, by omega, rfl, by simp [e0], by simp [e1], by simp, fun j hj => by omega⟩
      · rintro k e' H2 ⟨i, hi, rfl, rfl, q0, q1, q7, hlo2⟩
        by_cases hlt : i < 64
        · have hltI : (i : Int) < 64 := by omega
          refine walk (both q0 (both q1 (both q7 hltI))) ?_
          refine (bit39_ok m i hlt H2).mono fun v H3 _ ⟨ea, eb⟩ => ?_
          subst ea; subst eb
          cases hb : bitN m i with
          | false =>
            refine walk (both q0 (both q1 q7)) ?_
            exact Roundq.normal (64 - (i + 1)) (by omega) ⟨i + 1, by omega, rfl, rfl, by simp [q0], by simp [q1], by simp, lt_step hlo2 (fun h => by rw [hb] at h; exact absurd h.1 (by simp))⟩
          | true =>
            refine walk (both q0 (both q1 q7)) ?_
            refine (bit39_ok o i hlt H3).mono fun v H4 _ ⟨ea, eb⟩ => ?_
            subst ea; subst eb
            cases hb2 : bitN o i with
            | true =>
              refine walk (both q0 (both q1 q7)) ?_
              exact Roundq.normal (64 - (i + 1)) (by omega) ⟨i + 1, by omega, rfl, rfl, by simp [q0], by simp [q1], by simp, lt_step hlo2 (fun h => by rw [hb2] at h; exact absurd h.2 (by simp))⟩
            | false =>
              have hr : maskR o m = (0, 93) := by unfold maskR; rw [if_neg hnb, if_pos ⟨i, hlt, hb, hb2⟩]
              rw [hr]
              refine walk (both q0 (both q1 q7)) ?_
              exact ⟨rfl, rfl⟩
        · obtain rfl : i = 64 := by omega
          have hno : ¬ maskOver o m := fun ⟨i, hi, h⟩ => hlo2 i hi h
          have hr : maskR o m = (m, 0) := by unfold maskR; rw [if_neg hnb, if_neg hno]
          rw [hr]
          refine walk (both q0 (both q1 q7)) ?_
          exact ⟨rfl, rfl⟩
theorem whiteMasks_main (o m : Int) (H : Heap) : Cl Tryd.prog pr02 6 [.int .i64 o, .int .i64 m] H fun v _ => v = .bool true := by
  refine Cl.enter Tryd.func6 rfl rfl Tryd.ntmps6 (by simp) ?_
  refine walk none0 ?_
  refine (mask_ok o m H).mono fun v H1 _ ⟨ea, eb⟩ => ?_
  subst ea; subst eb
  refine walk none0 ?_
  refine (refMask_ok o m H1).mono fun v H2 _ ⟨ea, eb⟩ => ?_
  subst ea; subst eb
  have f2 := over_fact o m
  by_cases h1 : maskBad o m
  · have hr : maskR o m = (0, 22) := by unfold maskR; rw [if_pos h1]
    rw [hr]
    refine walk none0 ?_
    refine (lives_ok H2).mono fun v H3 _ ⟨ea, eb⟩ => ?_
    subst ea; subst eb
    refine walk none0 ?_
    rfl
  · by_cases h2 : maskOver o m
    · have hr : maskR o m = (0, 93) := by unfold maskR; rw [if_neg h1, if_pos h2]
      rw [hr]
      refine walk none0 ?_
      refine (lives_ok H2).mono fun v H3 _ ⟨ea, eb⟩ => ?_
      subst ea; subst eb
      refine walk none0 ?_
      rfl
    · have hr : maskR o m = (m, 0) := by unfold maskR; rw [if_neg h1, if_neg h2]
      have f2 := f2.trans (eq_true h2)
      rw [hr]
      refine walk f2 ?_
      refine (lives_ok H2).mono fun v H3 _ ⟨ea, eb⟩ => ?_
      subst ea; subst eb
      refine walk none0 ?_
      rfl
end Go.Abs

/- Chapter 02: lists that come in; what a whitelist is; WhiteHas. -/
namespace Go.Abs
open Go.Proofs
set_option maxRecDepth 100000
set_option linter.unusedVariables false
set_option linter.unusedSimpArgs false

theorem own29_ok {H : Heap} {a : Bool} {v : AV} {l : List Int} (h : Is H v l) (hL : l.length ≤ 100000) : Cl Tryd.prog pr02 29 [.agg [.bool a, v]] H fun r H' => ∃ w, r = .agg [.bool a, w] ∧ FreshG H H' 3 1 w l.length (ints l) := by
  obtain ⟨va, cap, ex, rfl, hc, hex⟩ := h.form
  refine Cl.enter Tryd.func29 rfl rfl Tryd.ntmps29 (by simp) ?_
  refine walk none0 ?_
  refine Wq.regionM [(2, 0), (3, 0), (4, 0), (5, 0), (0, 0), (1, 2), (6, 0), (7, 0)] (by kernel_rfl) ?_
  refine mwalk none0 ?_
  refine Dq.appendG (own := (.empty _)) (new := ints l) (q := l.length) rfl met_none (by simp (disch := omega) [-getElem?_pos, wrapI64, tdivN, tmodN, ipos, ineg, dpos, dneg, slc_l, slc_h, slc_lh, slc_hm, slc_lhm, slc_0, slcR_some, slcR_none, cutS_ok, cutA_ok, byteAt_ok]; first | done | (repeat' (first | rfl | apply And.intro))) ⟨_, rfl, by simp; first | done | (repeat' (first | rfl | apply And.intro))⟩ rfl (by kernel_rfl) (by kernel_rfl) ((Sl.push (Sl.push (Sl.push h _) _) _).src') (by simp) (ints_one l) (by omega) (by omega) fun w1 H1 o1 b1 s1 => ?_
  have hn1 := b1.1
  simp at hn1
  have hg1 : H1.get H.next = some (.cells [.bool a, .slice va l.length cap ex] 24 true false) := by
    rw [b1.2.2 H.next (by simp <;> omega) (by simp [slBlock] <;> omega)]
    simp (disch := omega) [ineg]
  have hg2 : H1.get (H.next + 1) = some (.cells [.bool false, .slice none 0 0 none] 24 true false) := by
    rw [b1.2.2 (H.next + 1) (by simp <;> omega) (by simp [slBlock] <;> omega)]
    simp (disch := omega) [ineg]
  rw [Nat.zero_add, List.nil_append] at o1
  have f1 : FreshG H H1 3 1 w1 l.length (ints l) := (FreshG.made (H0 := H) (cs := []) (n := 0) (elem := 3) (s := 1) (((Upd.rfl.push _).push _).push _) (by simp) (b := H.next + 1 + 1) (by omega) (by simp) (by simp)).app o1 b1 s1
  obtain ⟨wa1, wc1, wx1, rfl, hwc, hwx⟩ := o1.form
  refine mwalk (both hg1 hg2) ?_
  refine walk none0 ?_
  exact ⟨_, rfl, f1.put _ (by omega) (by omega) (by rcases s1 with e | e <;> rw [e] <;> simp [slBlock] <;> omega)⟩
theorem short9_ok {H : Heap} {a : Bool} {v : AV} {l : List Int} (h : Is H v l) : Cl Tryd.prog pr02 9 [.agg [.bool a, v]] H fun r H' => ∃ w, r = .agg [.bool a, w] ∧ FreshG H H' 3 1 w (l.take 200).length (ints (l.take 200)) := by
  obtain ⟨va, cap, ex, rfl, hc, hex⟩ := h.form
  refine Cl.enter Tryd.func9 rfl rfl Tryd.ntmps9 (by simp) ?_
  by_cases h1 : 200 < l.length
  · have hl2 : (l.take 200).length = 200 := by simp; omega
    obtain ⟨b, o, rfl⟩ : ∃ b o, va = some (b, o) := by
      obtain ⟨b, o, c, t, w, m, e, _⟩ := Sl.at h (by omega)
      exact ⟨b, o, e⟩
    have hcap : (200 : Int) ≤ cap := by omega
    have hcapN : 200 ≤ cap := by omega
    rw [hl2]
    refine walk (both h1 (both hcap (both hcapN hex))) ?_
    have kB : Keep H (((H.push (.cells [.bool a, .slice (some (b, o)) l.length cap ex] 24 true false)).push (.cells [.bool false, .slice none 0 0 none] 24 true false)).set H.next (.cells [.bool a, .slice (some (b, o)) 200 cap ex] 24 true false)) := ((Upd.rfl.push _).push _).set _ (by simp; omega) (by omega)
    have hct := (h.cut (n := 200) (by omega) hc hex).kept kB
    have ho := own29_ok (a := a) hct (by omega)
    rw [hl2] at ho
    refine ho.mono fun v H1 _ ⟨w, e1, f1⟩ => ?_
    subst e1
    have gz := (f1.keep.get (b := H.next + 1) (by simp)).trans (show (((H.push (.cells [.bool a, .slice (some (b, o)) l.length cap ex] 24 true false)).push (.cells [.bool false, .slice none 0 0 none] 24 true false)).set H.next (.cells [.bool a, .slice (some (b, o)) 200 cap ex] 24 true false)).get (H.next + 1) = some (.cells [.bool false, .slice none 0 0 none] 24 true false) by simp (disch := omega) [ineg])
    have f2 := f1.after kB
    have hn := f1.keep.next
    simp at hn
    obtain ⟨wa1, wc1, wx1, rfl, hwc, hwx⟩ := f1.own.form
    have hnew := f1.new
    simp at hnew
    refine walk gz ?_
    exact ⟨_, rfl, f2.put _ (by omega) (by omega) (fun e => by have := hnew _ e; omega)⟩
  · rw [List.take_of_length_le (by omega)]
    refine walk h1 ?_
    have kB : Keep H ((H.push (.cells [.bool a, .slice va l.length cap ex] 24 true false)).push (.cells [.bool false, .slice none 0 0 none] 24 true false)) := (Upd.rfl.push _).push _
    refine (own29_ok (h.kept kB) (by omega)).mono fun v H1 _ ⟨w, e1, f1⟩ => ?_
    subst e1
    have gz := (f1.keep.get (b := H.next + 1) (by simp)).trans (show ((H.push (.cells [.bool a, .slice va l.length cap ex] 24 true false)).push (.cells [.bool false, .slice none 0 0 none] 24 true false)).get (H.next + 1) = some (.cells [.bool false, .slice none 0 0 none] 24 true false) by simp (disch := omega) [ineg])
    have f2 := f1.after kB
    have hn := f1.keep.next
    simp at hn
    obtain ⟨wa1, wc1, wx1, rfl, hwc, hwx⟩ := f1.own.form
    have hnew := f1.new
    simp at hnew
    refine walk gz ?_
    exact ⟨_, rfl, f2.put _ (by omega) (by omega) (fun e => by have := hnew _ e; omega)⟩
/-- A list that can be a whitelist's. -/
def okAt (l : List Int) (i : Nat) : Prop := ∀ c, l[i]? = some c → 0 ≤ c ∧ (0 < i → ∀ b, l[i - 1]? = some b → b < c)
def okL (l : List Int) : Prop := ∀ i < l.length, okAt l i
open Classical in
noncomputable def canP (a : Bool) (l : List Int) : Bool := if a then decide (l = []) else decide (okL l ∧ l.length ≤ 32)
theorem can34_ok {H : Heap} {a : Bool} {v : AV} {l : List Int} (h : Is H v l) (hL : l.length ≤ 100000) : Cl Tryd.prog pr02 34 [.agg [.bool a, v]] H fun r H' => Keep H H' ∧ r = .bool (canP a l) := by
  obtain ⟨va, cap, ex, rfl, hc, hex⟩ := h.form
  have kB : Keep H (H.push (.cells [.bool a, .slice va l.length cap ex] 24 true false)) := Upd.rfl.push _
  unfold canP
  refine Cl.enter Tryd.func34 rfl rfl Tryd.ntmps34 (by simp) ?_
  cases a with
  | true =>
    by_cases h0 : l = []
    · subst h0
      refine walk none0 ?_
      exact ⟨kB, by simp⟩
    · have hl : l.length ≠ 0 := fun e => h0 (List.eq_nil_of_length_eq_zero e)
      refine walk none0 ?_
      exact ⟨kB, by simp [h0]⟩
  | false =>
    have gB : (H.push (.cells [.bool false, .slice va l.length cap ex] 24 true false)).get H.next = some (.cells [.bool false, .slice va l.length cap ex] 24 true false) := by simp
    have hB := h.kept kB
    refine walk none0 ?_
    generalize H.push (.cells [.bool false, .slice va l.length cap ex] 24 true false) = H1 at *
    refine Wq.loop (fun m e H' => ∃ i : Nat, i ≤ l.length ∧ m = l.length - i ∧ H' = H1 ∧ e 1 = .ptr (some (H.next, 0)) ∧ e 12 = .slice va l.length cap ex ∧ e 13 = .int .i64 l.length ∧ e 14 = .int .i64 i ∧ ∀ j < i, okAt l j) l.length ?_ ?_
    · exact ⟨0, by omega, by omega, rfl, by simp, by simp, by simp, by simp, fun j hj => by omega⟩
    · rintro m e H' ⟨i, hi, rfl, rfl, g1, g12, g13, g14, hlo⟩
      by_cases hlt : i < l.length
      · obtain ⟨c, hcx⟩ := geti_lt hlt
        obtain ⟨b, o, cc, t, w, mk, rfl, _, hb1, hb2, hb3, hb4⟩ := int_at hB hcx
        by_cases hneg : c < 0
        · have hno : ¬ (okL l ∧ l.length ≤ 32) := fun hh => by have := (hh.1 i hlt c hcx).1; omega
          refine walk (both g1 (both g12 (both g13 (both g14 (both hlt (both hb2 (both hb3 (both hb4 (both hneg gB))))))))) ?_
          exact ⟨kB, by simp [hno]⟩
        · by_cases h0 : 0 < i
          · have h0I : 0 < (i : Int) := by omega
            obtain ⟨d, hdx⟩ := geti_lt (l := l) (i := i - 1) (by omega)
            obtain ⟨b', o', cc', t', w', mk', e', _, _, hb2', hb3', hb5⟩ := int_at hB hdx
            injection e' with e'; injection e' with e1 e2; subst e1; subst e2
            rw [hb2] at hb2'; injection hb2' with e'; injection e' with e1 e2 e4 e5; subst e1; subst e2; subst e4; subst e5
            have hiI : ((i : Int) - 1) = ((i - 1 : Nat) : Int) := by omega
            by_cases hle : c ≤ d
            · have hno : ¬ (okL l ∧ l.length ≤ 32) := fun hh => by have := (hh.1 i hlt c hcx).2 h0 d hdx; omega
              refine walk (both g1 (both g12 (both g13 (both g14 (both hlt (both hb2 (both hb3 (both hb4 (both hneg (both gB (both h0I (both hb3' (both hb5 hle))))))))))))) ?_
              exact ⟨kB, by simp [hno]⟩
            · have hok : okAt l i := fun c' hc' => by
                rw [hcx] at hc'; injection hc' with hc'; subst hc'
                exact ⟨by omega, fun _ b hb => by rw [hdx] at hb; injection hb with hb; subst hb; omega⟩
              refine walk (both g1 (both g12 (both g13 (both g14 (both hlt (both hb2 (both hb3 (both hb4 (both hneg (both gB (both h0I (both hb3' (both hb5 hle))))))))))))) ?_
              exact Roundq.normal (l.length - (i + 1)) (by omega) ⟨i + 1, by omega, rfl, rfl, by simp [g1], by simp [g12], by simp [g13], by simp, lt_step hlo hok⟩
          · have h0I : ¬ 0 < (i : Int) := by omega
            have hok : okAt l i := fun c' hc' => by
              rw [hcx] at hc'; injection hc' with hc'; subst hc'
              exact ⟨by omega, fun h => by omega⟩
            refine walk (both g1 (both g12 (both g13 (both g14 (both hlt (both hb2 (both hb3 (both hb4 (both hneg (both gB h0I)))))))))) ?_
            exact Roundq.normal (l.length - (i + 1)) (by omega) ⟨i + 1, by omega, rfl, rfl, by simp [g1], by simp [g12], by simp [g13], by simp, lt_step hlo hok⟩
      · obtain rfl : i = l.length := by omega
        have hok : okL l := hlo
        by_cases h32 : l.length ≤ 32
        · have h32I : (l.length : Int) ≤ 32 := by omega
          refine walk (both g1 (both g12 (both g13 (both g14 (both gB h32I))))) ?_
          exact ⟨kB, by simp [hok, h32]⟩
        · have h32I : ¬ (l.length : Int) ≤ 32 := by omega
          refine walk (both g1 (both g12 (both g13 (both g14 (both gB h32I))))) ?_
          exact ⟨kB, by simp [h32]⟩
theorem refCan15_ok {H : Heap} {a : Bool} {v : AV} {l : List Int} (h : Is H v l) (hL : l.length ≤ 100000) : Cl Tryd.prog pr02 15 [.agg [.bool a, v]] H fun r H' => Keep H H' ∧ r = .bool (canP a l) := by
  obtain ⟨va, cap, ex, rfl, hc, hex⟩ := h.form
  have kB : Keep H (H.push (.cells [.bool a, .slice va l.length cap ex] 24 true false)) := Upd.rfl.push _
  have gB : (H.push (.cells [.bool a, .slice va l.length cap ex] 24 true false)).get H.next = some (.cells [.bool a, .slice va l.length cap ex] 24 true false) := by simp
  have hB := h.kept kB
  unfold canP
  refine Cl.enter Tryd.func15 rfl rfl Tryd.ntmps15 (by simp) ?_
  refine walk none0 ?_
  generalize H.push (.cells [.bool a, .slice va l.length cap ex] 24 true false) = H1 at *
  refine Wq.loop (fun m e H' => ∃ i : Nat, i ≤ l.length ∧ m = l.length - i ∧ H' = H1 ∧ e 1 = .ptr (some (H.next, 0)) ∧ e 3 = .int .i64 i ∧ (0 < i → a = false) ∧ (∀ j < i, okAt l j) ∧ i ≤ 32) l.length ?_ ?_
  · exact ⟨0, by omega, by omega, rfl, by simp, by simp, by simp, fun j hj => by omega, by omega⟩
  · rintro m e H' ⟨i, hi, rfl, rfl, g1, g3, hall, hlo, hi32⟩
    by_cases hlt : i < l.length
    · obtain ⟨c, hcx⟩ := geti_lt hlt
      obtain ⟨b, o, cc, t, w, mk, rfl, _, hb1, hb2, hb3, hb4⟩ := int_at hB hcx
      have hne : l ≠ [] := by rintro rfl; simp at hlt
      cases a with
      | true =>
        refine walk (both g1 (both g3 (both hlt gB))) ?_
        refine Wq.regionD [0, 1, 2, 3, 4, 5, 6, 7, 8, 9, 10, 11, 12, 13, 14, 15, 16, 17, 18, 19, 20, 21, 22, 23, 24, 25, 26, 27, 28, 29, 30, 31] (by kernel_rfl) ?_
        refine walk (both g1 (both g3 (both hlt gB))) ?_
        exact ⟨kB, by simp [hne]⟩
      | false =>
        by_cases hneg : c < 0
        · have hno : ¬ (okL l ∧ l.length ≤ 32) := fun hh => by have := (hh.1 i hlt c hcx).1; omega
          refine walk (both g1 (both g3 (both hlt gB))) ?_
          refine Wq.regionD [0, 1, 2, 3, 4, 5, 6, 7, 8, 9, 10, 11, 12, 13, 14, 15, 16, 17, 18, 19, 20, 21, 22, 23, 24, 25, 26, 27, 28, 29, 30, 31] (by kernel_rfl) ?_
          refine walk (both g1 (both g3 (both hlt (both gB (both hb2 (both hb3 (both hb4 hneg))))))) ?_
          exact ⟨kB, by simp [hno]⟩
        · by_cases h0 : 0 < i
          · have h0I : 0 < (i : Int) := by omega
            obtain ⟨d, hdx⟩ := geti_lt (l := l) (i := i - 1) (by omega)
            obtain ⟨b', o', cc', t', w', mk', e', _, _, hb2', hb3', hb5⟩ := int_at hB hdx
            injection e' with e'; injection e' with e1 e2; subst e1; subst e2
            rw [hb2] at hb2'; injection hb2' with e'; injection e' with e1 e2 e4 e5; subst e1; subst e2; subst e4; subst e5
            by_cases hle : c ≤ d
            · have hno : ¬ (okL l ∧ l.length ≤ 32) := fun hh => by have := (hh.1 i hlt c hcx).2 h0 d hdx; omega
              refine walk (both g1 (both g3 (both hlt gB))) ?_
              refine Wq.regionD [0, 1, 2, 3, 4, 5, 6, 7, 8, 9, 10, 11, 12, 13, 14, 15, 16, 17, 18, 19, 20, 21, 22, 23, 24, 25, 26, 27, 28, 29, 30, 31] (by kernel_rfl) ?_
              refine walk (both g1 (both g3 (both hlt (both gB (both hb2 (both hb3 (both hb4 (both hneg (both h0I (both hb3' (both hb5 hle))))))))))) ?_
              exact ⟨kB, by simp [hno]⟩
            · have hok : okAt l i := fun c' hc' => by
                rw [hcx] at hc'; injection hc' with hc'; subst hc'
                exact ⟨by omega, fun _ b hb => by rw [hdx] at hb; injection hb with hb; subst hb; omega⟩
              by_cases h32 : 32 ≤ i
              · have h32I : 32 ≤ (i : Int) := by omega
                have hno : ¬ (okL l ∧ l.length ≤ 32) := fun hh => by omega
                refine walk (both g1 (both g3 (both hlt gB))) ?_
                refine Wq.regionD [0, 1, 2, 3, 4, 5, 6, 7, 8, 9, 10, 11, 12, 13, 14, 15, 16, 17, 18, 19, 20, 21, 22, 23, 24, 25, 26, 27, 28, 29, 30, 31] (by kernel_rfl) ?_
                refine walk (both g1 (both g3 (both hlt (both gB (both hb2 (both hb3 (both hb4 (both hneg (both h0I (both hb3' (both hb5 (both hle h32I)))))))))))) ?_
                exact ⟨kB, by simp [hno]⟩
              · have h32I : ¬ 32 ≤ (i : Int) := by omega
                refine walk (both g1 (both g3 (both hlt gB))) ?_
                refine Wq.regionD [0, 1, 2, 3, 4, 5, 6, 7, 8, 9, 10, 11, 12, 13, 14, 15, 16, 17, 18, 19, 20, 21, 22, 23, 24, 25, 26, 27, 28, 29, 30, 31] (by kernel_rfl) ?_
                refine walk (both g1 (both g3 (both hlt (both gB (both hb2 (both hb3 (both hb4 (both hneg (both h0I (both hb3' (both hb5 (both hle h32I)))))))))))) ?_
                exact Roundq.normal (l.length - (i + 1)) (by omega) ⟨i + 1, by omega, rfl, rfl, by simp [g1], by simp, fun _ => rfl, lt_step hlo hok, by omega⟩
          · have h0I : ¬ 0 < (i : Int) := by omega
            have h32I : ¬ 32 ≤ (i : Int) := by omega
            have hok : okAt l i := fun c' hc' => by
              rw [hcx] at hc'; injection hc' with hc'; subst hc'
              exact ⟨by omega, fun h => by omega⟩
            refine walk (both g1 (both g3 (both hlt gB))) ?_
            refine Wq.regionD [0, 1, 2, 3, 4, 5, 6, 7, 8, 9, 10, 11, 12, 13, 14, 15, 16, 17, 18, 19, 20, 21, 22, 23, 24, 25, 26, 27, 28, 29, 30, 31] (by kernel_rfl) ?_
            refine walk (both g1 (both g3 (both hlt (both gB (both hb2 (both hb3 (both hb4 (both hneg (both h0I h32I))))))))) ?_
            exact Roundq.normal (l.length - (i + 1)) (by omega) ⟨i + 1, by omega, rfl, rfl, by simp [g1], by simp, fun _ => rfl, lt_step hlo hok, by omega⟩
    · obtain rfl : i = l.length := by omega
      have hok : okL l := hlo
      cases a with
      | true =>
        have h0 : l = [] := by
          cases l with
          | nil => rfl
          | cons x r => exact absurd (hall (by simp)) (by simp)
        subst h0
        refine walk (both g1 (both g3 gB)) ?_
        exact ⟨kB, by simp⟩
      | false =>
        refine walk (both g1 (both g3 gB)) ?_
        exact ⟨kB, by simp [hok, hi32]⟩
end Go.Abs

/- Chapter 02: WhiteHas, walked. -/
namespace Go.Abs
open Go.Proofs
set_option maxRecDepth 100000
set_option linter.unusedVariables false
set_option linter.unusedSimpArgs false

theorem in31_ok {H : Heap} {v : AV} {l : List Int} (h : Is H v l) (hL : l.length ≤ 100000) (n : Int) : Cl Tryd.prog pr02 31 [v, .int .i64 n] H fun r H' => H' = H ∧ r = .bool (decide (n ∈ l)) := by
  obtain ⟨va, cap, ex, rfl, hc, hex⟩ := h.form
  refine Cl.enter Tryd.func31 rfl rfl Tryd.ntmps31 (by simp) ?_
  refine walk none0 ?_
  refine Wq.loop (fun m e H' => ∃ i : Nat, i ≤ l.length ∧ m = l.length - i ∧ H' = H ∧ e 0 = .slice va l.length cap ex ∧ e 1 = .int .i64 n ∧ e 5 = .int .i64 i ∧ ∀ j < i, l[j]? ≠ some n) l.length ?_ ?_
  · exact ⟨0, by omega, by omega, rfl, by simp, by simp, by simp, fun j hj => by omega⟩
  · rintro m e H' ⟨i, hi, rfl, rfl, g0, g1, g5, hlo⟩
    by_cases hlt : i < l.length
    · obtain ⟨c, hcx⟩ := geti_lt hlt
      obtain ⟨b, o, cc, t, w, mk, rfl, _, hb1, hb2, hb3, hb4⟩ := int_at h hcx
      by_cases hn : c = n
      · subst hn
        refine walk (both g0 (both g1 (both g5 (both hlt (both hb2 (both hb3 hb4)))))) ?_
        exact ⟨rfl, by rw [decide_eq_true (List.mem_of_getElem? hcx)]⟩
      · refine walk (both g0 (both g1 (both g5 (both hlt (both hb2 (both hb3 (both hb4 hn))))))) ?_
        exact Roundq.normal (l.length - (i + 1)) (by omega) ⟨i + 1, by omega, rfl, rfl, by simp [g0], by simp [g1], by simp, lt_step hlo (fun e => by rw [hcx] at e; injection e with e; exact hn e)⟩
    · obtain rfl : i = l.length := by omega
      have hno : n ∉ l := fun hm => by
        obtain ⟨j, hj⟩ := List.mem_iff_getElem?.1 hm
        exact hlo j (List.getElem?_eq_some_iff.1 hj).1 hj
      refine walk (both g0 (both g1 g5)) ?_
      exact ⟨rfl, by rw [decide_eq_false hno]⟩
theorem nan52_ok (x : Int) (H : Heap) : Cl Tryd.prog pr02 52 [.int .i64 x] H fun r H' => r = .bool false ∧ H' = H := by
  refine Cl.enter Tryd.func52 rfl rfl Tryd.ntmps52 (by simp) ?_
  refine walk none0 ?_
  exact ⟨rfl, rfl⟩
theorem less51_ok (x y : Int) (H : Heap) : Cl Tryd.prog pr02 51 [.int .i64 x, .int .i64 y] H fun r H' => r = .bool (decide (x < y)) ∧ H' = H := by
  have n59 : ∀ (x : Int) (H : Heap), Cl Tryd.prog pr02 59 [.int .i64 x] H fun r H' => r = .bool false ∧ H' = H := fun x H => by
    refine Cl.enter Tryd.func59 rfl rfl Tryd.ntmps59 (by simp) ?_
    refine walk none0 ?_
    exact ⟨rfl, rfl⟩
  refine Cl.enter Tryd.func51 rfl rfl Tryd.ntmps51 (by simp) ?_
  refine walk none0 ?_
  refine (n59 x H).mono fun v H1 _ ⟨ea, eb⟩ => ?_
  subst ea; subst eb
  refine walk none0 ?_
  exact ⟨rfl, rfl⟩
theorem sorted_lt {l : List Int} (h : okL l) : ∀ {i j : Nat} {a b : Int}, i < j → l[i]? = some a → l[j]? = some b → a < b := by
  intro i j
  induction j with
  | zero => intro a b hij; omega
  | succ j ih =>
    intro a b hij ha hb
    have hj := (List.getElem?_eq_some_iff.1 hb).1
    obtain ⟨c, hc⟩ := geti_lt (l := l) (i := j) (by omega)
    have h1 := (h (j + 1) hj b hb).2 (by omega) c (by simpa using hc)
    rcases Nat.lt_or_ge i j with h' | h'
    · have := ih h' ha hc; omega
    · obtain rfl : i = j := by omega
      rw [ha] at hc; injection hc with hc; omega
theorem search41_ok {H : Heap} {v : AV} {l : List Int} (h : Is H v l) (hL : l.length ≤ 100000) (hok : okL l) (n : Int) : Cl Tryd.prog pr02 41 [v, .int .i64 n] H fun r H' => H' = H ∧ ∃ k : Int, r = .tuple [.int .i64 k, .bool (decide (n ∈ l))] := by
  obtain ⟨va, cap, ex, rfl, hc, hex⟩ := h.form
  refine Cl.enter Tryd.func41 rfl rfl Tryd.ntmps41 (by simp) ?_
  refine walk none0 ?_
  refine Wq.loop (fun m e H' => ∃ i j : Nat, i ≤ j ∧ j ≤ l.length ∧ m = j - i ∧ H' = H ∧ e 0 = .slice va l.length cap ex ∧ e 1 = .int .i64 n ∧ e 6 = .int .i64 l.length ∧ e 7 = .int .i64 i ∧ e 8 = .int .i64 j ∧ (∀ (k : Nat) (a : Int), k < i → l[k]? = some a → a < n) ∧ (∀ (k : Nat) (a : Int), j ≤ k → l[k]? = some a → n ≤ a)) l.length ?_ ?_
  · exact ⟨0, l.length, by omega, by omega, by omega, rfl, by simp, by simp, by simp, by simp, by simp, fun k a hk => by omega, fun k a hk ha => by have := (List.getElem?_eq_some_iff.1 ha).1; omega⟩
  · rintro m e H' ⟨i, j, hij, hj, rfl, rfl, g0, g1, g6, g7, g8, hlo, hhi⟩
    by_cases hlt : i < j
    · obtain ⟨md, hmd⟩ : ∃ md, md = (i + j) / 2 := ⟨_, rfl⟩
      obtain ⟨c, hcx⟩ := geti_lt (l := l) (i := md) (by omega)
      obtain ⟨b, o, cc, t, w, mk, rfl, _, hb1, hb2, hb3, hb4⟩ := int_at h hcx
      have hltI : (i : Int) < j := by omega
      have hm1 : IntKind.u64.wrap ((i : Int) + j) = (i : Int) + j := by simp [IntKind.wrap, IntKind.signed, IntKind.bits]; omega
      have hm2 : ((i : Int) + j).fdiv (2 ^ min 1 IntKind.u64.bits) = (md : Int) := by
        rw [show min 1 IntKind.u64.bits = 1 from rfl, Int.fdiv_eq_ediv_of_nonneg _ (by omega)]
        omega
      have hm3 : IntKind.i64.wrap (md : Int) = md := by simp [IntKind.wrap, IntKind.signed, IntKind.bits]; omega
      have hmdl : md < l.length := by omega
      have hmdI : (md : Int) < l.length := by omega
      refine walk (both g0 (both g1 (both g6 (both g7 (both g8 (both hltI (both hm1 (both hm2 (both hm3 (both hmdl (both hmdI (both hb2 (both hb3 hb4))))))))))))) ?_
      refine (less51_ok c n H').mono fun v H1 _ ⟨ea, eb⟩ => ?_
      subst ea; subst eb
      by_cases hcn : c < n
      · refine walk (both g0 (both g1 (both g6 (both g7 (both g8 hcn))))) ?_
        refine Roundq.normal (j - (md + 1)) (by omega) ⟨md + 1, j, by omega, hj, rfl, rfl, by simp [g0], by simp [g1], by simp [g6], by simp, by simp [g8], fun k a hk ha => ?_, hhi⟩
        rcases Nat.lt_or_ge k md with h' | h'
        · have := sorted_lt hok h' ha hcx; omega
        · obtain rfl : k = md := by omega
          rw [hcx] at ha; injection ha with ha; omega
      · refine walk (both g0 (both g1 (both g6 (both g7 (both g8 hcn))))) ?_
        refine Roundq.normal (md - i) (by omega) ⟨i, md, by omega, by omega, rfl, rfl, by simp [g0], by simp [g1], by simp [g6], by simp [g7], by simp, hlo, fun k a hk ha => ?_⟩
        rcases Nat.lt_or_ge md k with h' | h'
        · have := sorted_lt hok h' hcx ha; omega
        · obtain rfl : k = md := by omega
          rw [hcx] at ha; injection ha with ha; omega
    · obtain rfl : i = j := by omega
      by_cases hil : i < l.length
      · obtain ⟨c, hcx⟩ := geti_lt hil
        obtain ⟨b, o, cc, t, w, mk, rfl, _, hb1, hb2, hb3, hb4⟩ := int_at h hcx
        have hilI : (i : Int) < l.length := by omega
        by_cases hcn : c = n
        · subst hcn
          have hm : c ∈ l := List.mem_of_getElem? hcx
          rw [decide_eq_true hm]
          refine walk (both g0 (both g1 (both g6 (both g7 (both g8 (both hil (both hilI (both hb2 (both hb3 hb4))))))))) ?_
          exact ⟨rfl, _, rfl⟩
        · have hm : n ∉ l := fun hm => by
            obtain ⟨k, hk⟩ := List.mem_iff_getElem?.1 hm
            rcases Nat.lt_or_ge k i with h' | h'
            · have := hlo k n h' hk; omega
            · rcases Nat.lt_or_ge i k with h'' | h''
              · have h1 := sorted_lt hok h'' hcx hk
                have h2 := hhi i c (Nat.le_refl _) hcx
                omega
              · obtain rfl : k = i := by omega
                rw [hcx] at hk; injection hk with hk; exact hcn hk
          rw [decide_eq_false hm]
          refine walk (both g0 (both g1 (both g6 (both g7 (both g8 (both hil (both hilI (both hb2 (both hb3 (both hb4 hcn)))))))))) ?_
          refine (nan52_ok c H').mono fun v H1 _ ⟨ea, eb⟩ => ?_
          subst ea; subst eb
          refine walk g7 ?_
          exact ⟨rfl, _, rfl⟩
      · have hm : n ∉ l := fun hm => by
          obtain ⟨k, hk⟩ := List.mem_iff_getElem?.1 hm
          have hkl := (List.getElem?_eq_some_iff.1 hk).1
          have := hlo k n (by omega) hk
          omega
        have hilI : ¬ (i : Int) < l.length := by omega
        rw [decide_eq_false hm]
        refine walk (both g0 (both g1 (both g6 (both g7 (both g8 hilI))))) ?_
        exact ⟨rfl, _, rfl⟩
/-- What is in a whitelist. -/
noncomputable def hasP (a : Bool) (l : List Int) (n : Int) : Bool := canP a l && decide (0 ≤ n) && (a || decide (n ∈ l))
theorem canP_ok {a : Bool} {l : List Int} (h : canP a l = true) : okL l ∧ l.length ≤ 100000 := by
  unfold canP at h
  cases a with
  | true =>
    simp at h
    subst h
    exact ⟨fun i hi => by simp at hi, by simp⟩
  | false =>
    simp at h
    exact ⟨h.1, by omega⟩
theorem has30_ok {H : Heap} {a : Bool} {v : AV} {l : List Int} (h : Is H v l) (hL : l.length ≤ 100000) (n : Int) : Cl Tryd.prog pr02 30 [.agg [.bool a, v], .int .i64 n] H fun r H' => Keep H H' ∧ r = .bool (hasP a l n) := by
  obtain ⟨va, cap, ex, rfl, hc, hex⟩ := h.form
  have kB : Keep H (H.push (.cells [.bool a, .slice va l.length cap ex] 24 true false)) := Upd.rfl.push _
  have gB : (H.push (.cells [.bool a, .slice va l.length cap ex] 24 true false)).get H.next = some (.cells [.bool a, .slice va l.length cap ex] 24 true false) := by simp
  have nB : H.next < (H.push (.cells [.bool a, .slice va l.length cap ex] 24 true false)).next := by simp
  have hB := h.kept kB
  unfold hasP
  refine Cl.enter Tryd.func30 rfl rfl Tryd.ntmps30 (by simp) ?_
  by_cases h0 : n < 0
  · have e : decide (0 ≤ n) = false := decide_eq_false (by omega)
    rw [e, Bool.and_false, Bool.false_and]
    refine walk h0 ?_
    exact ⟨kB, rfl⟩
  · have e : decide (0 ≤ n) = true := decide_eq_true (by omega)
    rw [e, Bool.and_true]
    refine walk h0 ?_
    generalize H.push (.cells [.bool a, .slice va l.length cap ex] 24 true false) = H1 at *
    refine (can34_ok hB hL).mono fun v H2 _ ⟨kA, ea⟩ => ?_
    subst ea
    have g2 := (kA.get nB).trans gB
    cases hcp : canP a l with
    | false =>
      refine walk none0 ?_
      exact ⟨kB.then kA, rfl⟩
    | true =>
      obtain ⟨hok, _⟩ := canP_ok hcp
      refine walk g2 ?_
      refine (search41_ok (hB.kept kA) hL hok n).mono fun v H3 _ ⟨ea, k, eb⟩ => ?_
      subst ea; subst eb
      cases hin : decide (n ∈ l) with
      | true =>
        refine walk none0 ?_
        exact ⟨kB.then kA, by simp⟩
      | false =>
        refine walk g2 ?_
        exact ⟨kB.then kA, by simp⟩
theorem Has10_ok {H : Heap} {a : Bool} {v : AV} {l : List Int} (h : Is H v l) (hL : l.length ≤ 100000) (n : Int) : Cl Tryd.prog pr02 10 [.agg [.bool a, v], .int .i64 n] H fun r H' => Keep H H' ∧ r = .bool (hasP a l n) := by
  obtain ⟨va, cap, ex, rfl, hc, hex⟩ := h.form
  have kB : Keep H (H.push (.cells [.bool a, .slice va l.length cap ex] 24 true false)) := Upd.rfl.push _
  refine Cl.enter Tryd.func10 rfl rfl Tryd.ntmps10 (by simp) ?_
  refine walk none0 ?_
  refine (has30_ok (h.kept kB) hL n).mono fun v H2 _ ⟨kA, ea⟩ => ?_
  subst ea
  refine walk none0 ?_
  exact ⟨kB.then kA, rfl⟩
theorem refHas11_ok {H : Heap} {a : Bool} {v : AV} {l : List Int} (h : Is H v l) (hL : l.length ≤ 100000) (n : Int) : Cl Tryd.prog pr02 11 [.agg [.bool a, v], .int .i64 n] H fun r H' => Keep H H' ∧ r = .bool (hasP a l n) := by
  obtain ⟨va, cap, ex, rfl, hc, hex⟩ := h.form
  have kB : Keep H (H.push (.cells [.bool a, .slice va l.length cap ex] 24 true false)) := Upd.rfl.push _
  have gB : (H.push (.cells [.bool a, .slice va l.length cap ex] 24 true false)).get H.next = some (.cells [.bool a, .slice va l.length cap ex] 24 true false) := by simp
  have nB : H.next < (H.push (.cells [.bool a, .slice va l.length cap ex] 24 true false)).next := by simp
  have hB := h.kept kB
  unfold hasP
  refine Cl.enter Tryd.func11 rfl rfl Tryd.ntmps11 (by simp) ?_
  refine walk none0 ?_
  generalize H.push (.cells [.bool a, .slice va l.length cap ex] 24 true false) = H1 at *
  refine (refCan15_ok hB hL).mono fun v H2 _ ⟨kA, ea⟩ => ?_
  subst ea
  have g2 := (kA.get nB).trans gB
  cases hcp : canP a l with
  | false =>
    refine walk none0 ?_
    exact ⟨kB.then kA, rfl⟩
  | true =>
    by_cases h0 : 0 ≤ n
    · rw [decide_eq_true h0]
      cases a with
      | true =>
        refine walk (both g2 h0) ?_
        exact ⟨kB.then kA, rfl⟩
      | false =>
        refine walk (both g2 h0) ?_
        refine (in31_ok (hB.kept kA) hL n).mono fun v H3 _ ⟨ea, eb⟩ => ?_
        subst ea; subst eb
        refine walk none0 ?_
        exact ⟨kB.then kA, by simp⟩
    · rw [decide_eq_false h0]
      refine walk (both g2 h0) ?_
      exact ⟨kB.then kA, rfl⟩
end Go.Abs

/- Chapter 02: WhiteHas. -/
namespace Go.Abs
open Go.Proofs
set_option maxRecDepth 100000
set_option linter.unusedVariables false
set_option linter.unusedSimpArgs false

theorem FreshG.is {H0 H : Heap} {elem : TypeId} {v : AV} {l : List Int} (f : FreshG H0 H elem 1 v l.length (ints l)) : Is H v l := f.own.sl
theorem take_twice (l : List Int) : (l.take 200).take 200 = l.take 200 := by rw [List.take_take]; rfl
theorem whiteHas_main {H : Heap} {a : Bool} {v : AV} {l : List Int} (h : Is H v l) (n : Int) : Cl Tryd.prog pr02 3 [.agg [.bool a, v], .int .i64 n] H fun r _ => r = .bool true := by
  obtain ⟨va, cap, ex, rfl, hc, hex⟩ := h.form
  have kB : Keep H (H.push (.cells [.bool a, .slice va l.length cap ex] 24 true false)) := Upd.rfl.push _
  have nB : H.next < (H.push (.cells [.bool a, .slice va l.length cap ex] 24 true false)).next := by simp
  have hB := h.kept kB
  refine Cl.enter Tryd.func3 rfl rfl Tryd.ntmps3 (by simp) ?_
  refine walk none0 ?_
  have gB : (H.push (.cells [.bool a, .slice va l.length cap ex] 24 true false)).get H.next = some (.cells [.bool a, .slice va l.length cap ex] 24 true false) := by simp
  generalize H.push (.cells [.bool a, .slice va l.length cap ex] 24 true false) = H1 at *
  refine (short9_ok hB).mono fun v H2 _ ⟨w, ea, f1⟩ => ?_
  subst ea
  have hL : (l.take 200).length ≤ 100000 := by simp; omega
  generalize hl2 : l.take 200 = l2 at *
  obtain ⟨wa, wc, wx, rfl, hwc, hwx⟩ := f1.own.form
  have g2 := (f1.keep.get nB).trans gB
  have n2 : H.next < H2.next := Nat.lt_of_lt_of_le nB f1.keep.next
  have hnew := f1.new
  have h2 : Is (H2.set H.next (.cells [.bool a, .slice wa l2.length wc wx] 24 true false)) (.slice wa l2.length wc wx) l2 := Sl.set f1.is _ (fun e => by have := hnew _ e; omega)
  have g3 : (H2.set H.next (.cells [.bool a, .slice wa l2.length wc wx] 24 true false)).get H.next = some (.cells [.bool a, .slice wa l2.length wc wx] 24 true false) := Heap.get_set_same _ _ _
  refine walk g2 ?_
  refine Wq.regionM [(0, 0), (1, 0), (2, 0), (3, 0), (4, 3), (5, 0), (6, 0), (7, 0), (8, 0), (9, 0), (10, 0), (11, 0)] (by kernel_rfl) ?_
  refine mwalk none0 ?_
  have hs := short9_ok (a := a) h2
  have ht : l2.take 200 = l2 := by rw [← hl2]; exact take_twice l
  rw [ht] at hs
  generalize hH3 : H2.set H.next (.cells [.bool a, .slice wa l2.length wc wx] 24 true false) = H3 at *
  have n3 : H.next < H3.next := by rw [← hH3]; simpa using n2
  refine hs.mono fun v H4 _ ⟨w, ea, f4⟩ => ?_
  subst ea
  obtain ⟨ua, uc, ux, rfl, huc, hux⟩ := f4.own.form
  have g4 := (f4.keep.get n3).trans g3
  have n4 : H.next < H4.next := Nat.lt_of_lt_of_le n3 f4.keep.next
  have h4 := h2.kept f4.keep
  refine mwalk (both g3 g4) ?_
  refine (Has10_ok f4.is hL n).mono fun v H5 _ ⟨kA, ea⟩ => ?_
  subst ea
  have g5 := (kA.get n4).trans g4
  have h5 := h4.kept kA
  refine mwalk (both g3 (both g4 g5)) ?_
  refine (refHas11_ok h5 hL n).mono fun v H6 _ ⟨kB, ea⟩ => ?_
  subst ea
  generalize hasP a l2 n = z
  refine mwalk none0 ?_
  refine (lives_ok _).mono fun v H7 _ ⟨ea, eb⟩ => ?_
  subst ea; subst eb
  refine mwalk none0 ?_
  refine walk none0 ?_
  rfl
end Go.Abs

/- Chapter 02: strconv.Itoa, walked. -/
namespace Go.Abs
open Go.Proofs
set_option maxRecDepth 100000
set_option linter.unusedVariables false
set_option linter.unusedSimpArgs false

def pow10C : List AV := (List.range 20).map fun i => .int .u64 ((10 ^ i : Nat) : Int)
def S02t : Stats := [(0, .cells pow10C 70 false false)]
theorem pow_at {H : Heap} (hL : Lain S02t H) : H.get 0 = some (.cells pow10C 70 false false) := (hL (0, .cells pow10C 70 false false) (by simp [S02t])).1
theorem lain_kept {S : Stats} {H H' : Heap} (h : Lain S H) (g : Keep H H') : Lain S H' := fun p hp => ⟨(g.get (h p hp).2).trans (h p hp).1, Nat.lt_of_lt_of_le (h p hp).2 g.next⟩
theorem len75_ok (u : Nat) (hu : u < 18446744073709551616) (H : Heap) : Cl Tryd.prog pr02 75 [.int .u64 u] H fun r H' => r = .int .i64 (Lib.bitLen u) ∧ H' = H := by
  refine Cl.prim (v := .int .i64 (Lib.bitLen u)) (H' := H) (g := fun args H => match lenAV args with | some v => some (v, H) | none => none) rfl ?_ ⟨rfl, rfl⟩
  simp only [lenAV]
  rw [if_pos (by omega)]
  simp
theorem small60_ok (u : Nat) (hu : u < 100) (H : Heap) : Cl Tryd.prog pr02 60 [.int .i64 u] H fun r H' => r = .str (Lib.decDigits u) ∧ H' = H := by
  refine Cl.prim (v := .str (Lib.decDigits u)) (H' := H) (g := fun args H => match smallAV args with | some v => some (v, H) | none => none) rfl ?_ ⟨rfl, rfl⟩
  simp only [smallAV]
  rw [if_pos (by omega)]
  simp
theorem l10_ok (x : Nat) (hx : x ≤ 64) (H : Heap) : Cl Tryd.prog pr02 76 [.int .i64 x] H fun r H' => r = .int .i64 (Lib.l10 x) ∧ H' = H := by
  have h1 : IntKind.i64.wrap ((x : Int) * 78913) = (x : Int) * 78913 := by simp [IntKind.wrap, IntKind.signed, IntKind.bits]; omega
  have h2 : ((x : Int) * 78913).fdiv (2 ^ min 18 IntKind.i64.bits) = (Lib.l10 x : Int) := by
    rw [show min 18 IntKind.i64.bits = 18 from rfl, Int.fdiv_eq_ediv_of_nonneg _ (by omega)]
    unfold Lib.l10
    omega
  refine Cl.enter Tryd.func76 rfl rfl Tryd.ntmps76 (by simp) ?_
  refine walk (both h1 h2) ?_
  exact ⟨rfl, rfl⟩
theorem bool77_ok (b : Bool) (H : Heap) : Cl Tryd.prog pr02 77 [.bool b] H fun r H' => r = .int .i64 (if b then 1 else 0) ∧ H' = H := by
  cases b
  all_goals
    refine Cl.enter Tryd.func77 rfl rfl Tryd.ntmps77 (by simp) ?_
    refine walk none0 ?_
    exact ⟨rfl, rfl⟩
@[simp] theorem ev_glob0 (T : List AV) : ev Tryd.prog T (.global 0) = some (.ptr (some (0, 0))) := by
  unfold ev
  exact if_pos (of_decide_eq_true (by kernel_rfl))
theorem nd61_ok (u : Nat) (h1 : 1 ≤ u) (h2 : u < 18446744073709551616) {H : Heap} (hL : Lain S02t H) : Cl Tryd.prog pr02 61 [.int .u64 u] H fun r H' => r = .int .i64 (Lib.nDigits u) ∧ H' = H := by
  have hg := pow_at hL
  obtain ⟨hnd, h19⟩ := Lib.numDigits_eq u h1 h2
  have hB : Lib.bitLen u ≤ 64 := Lib.bitLen_le u 64 (Nat.le_refl _) h2
  refine Cl.enter Tryd.func61 rfl rfl Tryd.ntmps61 (by simp) ?_
  refine walk none0 ?_
  refine (len75_ok u h2 H).mono fun r H1 _ ⟨ea, eb⟩ => ?_
  subst ea; subst eb
  refine walk none0 ?_
  refine (l10_ok _ hB H1).mono fun r H2 _ ⟨ea, eb⟩ => ?_
  subst ea; subst eb
  generalize Lib.l10 (Lib.bitLen u) = q at *
  have hq : pow10C[q]? = some (.int .u64 ((10 ^ q : Nat) : Int)) := by rw [pow10C, List.getElem?_map, List.getElem?_range (by omega)]; rfl
  have hql : q < pow10C.length := by simp [pow10C]; omega
  generalize pow10C = C at *
  generalize 10 ^ q = T at *
  have hq20 : q < 20 := by omega
  refine walk (both hg (both hq (both hql hq20))) ?_
  refine (bool77_ok (decide (T ≤ u)) H2).mono fun r H3 _ ⟨ea, eb⟩ => ?_
  subst ea; subst eb
  by_cases hT : T ≤ u
  · rw [if_pos hT] at hnd
    rw [decide_eq_true hT]
    refine walk none0 ?_
    exact ⟨by rw [← hnd]; simp, rfl⟩
  · rw [if_neg hT] at hnd
    rw [decide_eq_false hT]
    refine walk none0 ?_
    exact ⟨by rw [← hnd]; simp, rfl⟩
theorem digC_bytes (u : Nat) : digC u = cellsOfBytes (Lib.decDigits u) := rfl
theorem fmt53_ok (u : Nat) (hu : u < 9223372036854775808) {H : Heap} (hL : Lain S02t H) : Cl Tryd.prog pr02 53 [.int .i64 u, .int .i64 10] H fun r H' => r = .str (Lib.decDigits u) ∧ Keep H H' := by
  refine Cl.enter Tryd.func53 rfl rfl Tryd.ntmps53 (by simp) ?_
  by_cases h100 : u < 100
  · have h100I : (u : Int) < 100 := by omega
    refine walk h100I ?_
    refine (small60_ok u h100 H).mono fun r H1 _ ⟨ea, eb⟩ => ?_
    subst ea; subst eb
    refine walk none0 ?_
    exact ⟨rfl, Upd.rfl⟩
  · have h100I : ¬ (u : Int) < 100 := by omega
    have h0I : ¬ (u : Int) < 0 := by omega
    have hw : IntKind.u64.wrap (u : Int) = u := by simp [IntKind.wrap, IntKind.signed, IntKind.bits]; omega
    refine walk (both h100I (both h0I hw)) ?_
    have hLk := lain_kept hL (Upd.rfl.push (.cells (cellsOfBytes (zeroB 24)) 69 true false))
    have gz : (H.push (.cells (cellsOfBytes (zeroB 24)) 69 true false)).get H.next = some (.cells (cellsOfBytes (zeroB 24)) 69 true false) := by simp
    have kz : Keep H (H.push (.cells (cellsOfBytes (zeroB 24)) 69 true false)) := Upd.rfl.push _
    have nz : H.next < (H.push (.cells (cellsOfBytes (zeroB 24)) 69 true false)).next := by simp
    generalize H.push (.cells (cellsOfBytes (zeroB 24)) 69 true false) = H1 at *
    refine (nd61_ok u (by omega) (by omega) hLk).mono fun r H2 _ ⟨ea, eb⟩ => ?_
    subst ea; subst eb
    have hnd20 : Lib.nDigits u ≤ 20 := by have := Lib.numDigits_eq u (by omega) (by omega); split at this <;> omega
    have hnd1 : 1 ≤ Lib.nDigits u := by rw [Lib.nDigits]; split <;> omega
    have hfmt : ∀ (cap : Nat) (ex : Option Nat), Lib.nDigits u ≤ cap → fmtP [.slice (some (H.next, 1)) (Lib.nDigits u) cap ex, .int .u64 u] H2 = some (.tuple [], H2.set H.next (.cells ((cellsOfBytes (zeroB 24)).take 1 ++ digC u ++ (cellsOfBytes (zeroB 24)).drop (1 + Lib.nDigits u)) 69 true false)) := by
      intro cap ex hcap
      have hz24 : (cellsOfBytes (zeroB 24)) = List.replicate 24 (.int .u8 0) := by decide
      have hbz : AV.beqs (((cellsOfBytes (zeroB 24)).drop 1).take (Lib.nDigits u)) (List.replicate (Lib.nDigits u) (.int .u8 0)) = true := by
        rw [hz24, List.drop_replicate, List.take_replicate, Nat.min_eq_left (by omega)]
        exact AV.beqs_refl _
      simp only [fmtP, gz]
      rw [if_pos ⟨by rw [cellsOfBytes_len]; simp [zeroB]; omega, hcap, by omega, by omega, by simp, hbz⟩]
      simp
    have hdl : (Lib.decDigits u).length = Lib.nDigits u := Lib.decDigits_length u
    generalize Lib.nDigits u = nd at *
    have hndI : (nd : Int) ≤ 23 := by omega
    have hnd23 : nd ≤ 23 := by omega
    have hlen : (1 + (nd : Int)).toNat - 1 = nd := by omega
    refine walk (both hndI (both hnd23 (both h0I hlen))) ?_
    refine Cl.prim (g := fmtP) rfl (hfmt 23 none (by omega)) ?_
    have hl1 : ((cellsOfBytes (zeroB 24)).take 1).length = 1 := by simp [cellsOfBytes_len, zeroB]
    have hdc : (digC u).length = nd := by rw [digC_bytes, cellsOfBytes_len, hdl]
    have hdrop : ((((cellsOfBytes (zeroB 24)).take 1 ++ digC u ++ (cellsOfBytes (zeroB 24)).drop (1 + nd)).drop 1).take nd) = cellsOfBytes (Lib.decDigits u) := by
      rw [List.append_assoc, List.drop_append_of_le_length (by omega), List.drop_eq_nil_of_le (by omega), List.nil_append, List.take_append_of_le_length (by omega), List.take_of_length_le (by omega)]
      rfl
    have hcl : 1 + nd ≤ ((cellsOfBytes (zeroB 24)).take 1 ++ digC u ++ (cellsOfBytes (zeroB 24)).drop (1 + nd)).length := by
      rw [List.length_append, List.length_append]; omega
    generalize (cellsOfBytes (zeroB 24)).take 1 ++ digC u ++ (cellsOfBytes (zeroB 24)).drop (1 + nd) = CC at *
    have g3 : (H2.set H.next (.cells CC 69 true false)).get H.next = some (.cells CC 69 true false) := Heap.get_set_same _ _ _
    have k3 : Keep H (H2.set H.next (.cells CC 69 true false)) := kz.set _ nz (by omega)
    generalize H2.set H.next (.cells CC 69 true false) = H3 at *
    have hconv : convR Tryd.prog 51 9 (some (.slice (some (H.next, 1)) nd 23 none)) H3 = some (.str (Lib.decDigits u), H3) := by
      rw [convR_bytes, if_pos (by kernel_rfl), g3]
      simp only []
      rw [if_pos hcl, hdrop, bytesOfCells_of]
    refine walk (both hndI (both hnd23 (both h0I (both hlen hconv)))) ?_
    exact ⟨rfl, k3⟩
theorem itoa35_ok (u : Nat) (hu : u < 9223372036854775808) {H : Heap} (hL : Lain S02t H) : Cl Tryd.prog pr02 35 [.int .i64 u] H fun r H' => r = .str (Lib.decDigits u) ∧ Keep H H' := by
  have h42 : Cl Tryd.prog pr02 42 [.int .i64 u] H fun r H' => r = .str (Lib.decDigits u) ∧ Keep H H' := by
    refine Cl.enter Tryd.func42 rfl rfl Tryd.ntmps42 (by simp) ?_
    refine walk none0 ?_
    refine (fmt53_ok u hu hL).mono fun r H1 _ ⟨ea, k⟩ => ?_
    subst ea
    refine walk none0 ?_
    exact ⟨rfl, k⟩
  refine Cl.enter Tryd.func35 rfl rfl Tryd.ntmps35 (by simp) ?_
  refine walk none0 ?_
  refine h42.mono fun r H1 _ ⟨ea, k⟩ => ?_
  subst ea
  refine walk none0 ?_
  exact ⟨rfl, k⟩
end Go.Abs

/- The seat's own facts for its rows. -/
namespace Go.Proofs.YtfebefhibgpmjaaDoor
open Go.ChangeShapes Go.WideShapes Go.ChangeAt Go.RowKit Go.Abs
set_option linter.unusedVariables false
set_option maxRecDepth 100000

theorem own : ownKnob Tryd.prog.godebug = none := by kernel_rfl
theorem laidOut : laidOutB Tryd.prog = true := by kernel_rfl
theorem mixed : Tryd.prog.follows .mixedOrders = true := Tryd.mixed02
theorem plainN : plainNames Tryd.prog = true := Tryd.plain02
theorem primsOk : PrimsOk Tryd.prog pr02 := orPrims_ok Tryd.sortOk <| orPrims_ok Tryd.fmtOk <| orPrims_ok Tryd.lenOk <| relocPrims_ok mixed plainN Tryd.baseOk (by kernel_rfl) [12] (by intro f hf; simp at hf; subst hf; exact of_decide_eq_true (by kernel_rfl))
theorem primsRl : PrimsRl pr02 := orPrims_rl (sortPrims_rl _) (orPrims_rl (fmtPrims_rl _) (orPrims_rl (extPrims_rl _) (relocPrims_rl Tryd.baseRl S02 [12])))
theorem tabs_of (l : List (String × DataW Unit)) (W : World) (hL : laidMet Tryd.prog l W) (hm : ("internal/strconv.uint64pow10", Rows.laid_internal_strconv_uint64pow10) ∈ l) : ∀ p ∈ S02t, TabW Tryd.prog.globals.size W p := by
  intro p hp
  simp [S02t] at hp
  subst hp
  have hd : (Rows.laid_internal_strconv_uint64pow10 : DataW Unit) = Lib.tabData .u64 Lib.pow10Tab := by kernel_rfl
  have hr := Lib.laidMet.reads hL hm
  have hg : Tryd.prog.globalNamed "internal/strconv.uint64pow10" = some 0 := by kernel_rfl
  have htab : Lib.TabIs Tryd.prog W "internal/strconv.uint64pow10" .u64 Lib.pow10Tab := tabIs_of_reads hg (by kernel_rfl) Tryd.underlying89 Tryd.underlying70 (by kernel_rfl) (by kernel_rfl) hd hr
  have he : pow10C = Lib.pow10Tab.map fun z => .int .u64 z := by simp [pow10C, Lib.pow10Tab, List.map_map, Function.comp_def]
  rw [he]
  exact tabW_of htab hg (of_decide_eq_true (by kernel_rfl)) (by simp [Lib.pow10Tab])
theorem tabs_get : ∀ p ∈ S02t, (Heap.startS Tryd.prog.globals.size S02t).get p.1 = some p.2 := by
  intro p hp
  simp [S02t] at hp
  subst hp
  exact Tree.get_set _ _ _ _ |>.trans (by simp)

end Go.Proofs.YtfebefhibgpmjaaDoor
