/- Texts on this program, joined. -/
import Derived.Test.YtfebefhibgpmjaaDoorOwn05
import Derived.Test.YtfebefhibgpmjaaDoorKit06
import Derived.Test.YtfebefhibgpmjaaDoorKit04
import Derived.KernelRfl
import Derived.Test.YtfebefhibgpmjaaDoorProg
import Derived.Ground.NamesProg
import Derived.Shelf.Lays
import Derived.Test.YtfebefhibgpmjaaDoorRows
import Derived.Test.YtfebefhibgpmjaaDoorTie
import Derived.Test.YtfebefhibgpmjaaDoorCards
import Derived.WalkKit
import Derived.ProofKit
import Derived.OpenShut
import Derived.ShutString
import Derived.ChangeOld
import Derived.Below
import Derived.Lib.LaidU8
import Derived.PinnedBridge
import Derived.Lay
import Derived.LaidOnce
import Derived.SevenTiedAt

/- Chapter 02: WhiteMasks, walked. -/
namespace Go.Abs
open Go.Proofs
set_option maxRecDepth 100000
set_option linter.unusedVariables false
set_option linter.unusedSimpArgs false

def S02 : Stats := []
def base02 : Prims := memPrims [(36, joinAV)]
noncomputable def pr02 : Prims := orPrims (sortPrims 47) (relocPrims Tryd.prog base02 S02 [12])
theorem lain0 (H : Heap) : Lain S02 H := by intro p hp; cases hp
theorem run12 : ((acall Tryd.prog base02 60 12 [] (Heap.startS Tryd.prog.globals.size S02)).map fun r => sameAV r.1 (.bool true)) = some true := by kernel_rfl
theorem lives_ok (H : Heap) : Cl Tryd.prog pr02 12 [] H fun v H' => v = .bool true ∧ H' = H := by
  obtain ⟨n, H1, h⟩ := runs_on run12
  exact Cl.prim (v := .bool true) (H' := H) (g := relocP Tryd.prog base02 S02 12) rfl (relocP_flat rfl (lain0 H) rfl h) ⟨rfl, rfl⟩
theorem bit39_ok (n : Int) (i : Nat) (hi : i < 64) (H : Heap) : Cl Tryd.prog pr02 39 [.int .i64 n, .int .i64 i] H fun v H' => v = .bool (bitN n i) ∧ H' = H := by
  have hw : IntKind.u64.wrap (i : Int) = i := by simp [IntKind.wrap, IntKind.signed, IntKind.bits]; omega
  refine Cl.enter Tryd.func39 rfl rfl Tryd.ntmps39 (by simp) ?_
  refine walk hw ?_
  rw [fdiv_bit n i hi]
  exact ⟨rfl, rfl⟩
def offM (i : Nat) : Bool := decide (i < 3 ∨ 6 < i)
def maskBad (o m : Int) : Prop := ∃ i < 64, offM i = true ∧ (bitN o i || bitN m i) = true
def maskOver (o m : Int) : Prop := ∃ i < 64, bitN m i = true ∧ bitN o i = false
open Classical in
noncomputable def maskR (o m : Int) : Int × Int := if maskBad o m then (0, 22) else if maskOver o m then (0, 93) else (m, 0)
theorem mask120 : ((List.range 64).all fun i => ((120 % 2 ^ IntKind.i64.bits : Nat).testBit i) == !(offM i)) = true := by kernel_rfl
theorem bad_fact (o m : Int) : (IntKind.i64.wrap (((IntKind.i64.wrap (((o % 2 ^ IntKind.i64.bits).toNat ||| (m % 2 ^ IntKind.i64.bits).toNat : Nat) : Int) % 2 ^ IntKind.i64.bits).toNat &&& 2 ^ IntKind.i64.bits - 1 - 120 % 2 ^ IntKind.i64.bits : Nat) : Int) = 0) = ¬ maskBad o m := by
  have h := andNot_zero (IntKind.i64.wrap (((o % 2 ^ IntKind.i64.bits).toNat ||| (m % 2 ^ IntKind.i64.bits).toNat : Nat) : Int)) 120
  have e : ((120 : Int) % 2 ^ IntKind.i64.bits).toNat = 120 % 2 ^ IntKind.i64.bits := by decide
  rw [e] at h
  rw [h, eq_iff_iff]
  have hb : ∀ i < 64, bitN 120 i = !(offM i) := fun i hi => by
    unfold bitN
    rw [e]
    exact beq_iff_eq.1 (List.all_eq_true.1 mask120 i (List.mem_range.2 hi))
  unfold maskBad
  constructor
  · rintro h1 ⟨i, hi, h2, h3⟩
    have := h1 i hi (by rw [or_bit]; exact h3)
    rw [hb i hi, h2] at this
    cases this
  · intro h1 i hi h2
    rw [or_bit] at h2
    rw [hb i hi]
    cases h3 : offM i with
    | false => rfl
    | true => exact absurd ⟨i, hi, h3, h2⟩ h1
theorem over_fact (o m : Int) : (IntKind.i64.wrap (((m % 2 ^ IntKind.i64.bits).toNat &&& 2 ^ IntKind.i64.bits - 1 - (o % 2 ^ IntKind.i64.bits).toNat : Nat) : Int) = 0) = ¬ maskOver o m := by
  rw [andNot_zero, eq_iff_iff]
  unfold maskOver
  constructor
  · rintro h1 ⟨i, hi, h2, h3⟩
    have := h1 i hi h2
    rw [this] at h3
    cases h3
  · intro h1 i hi h2
    cases h3 : bitN o i with
    | true => rfl
    | false => exact absurd ⟨i, hi, h2, h3⟩ h1
theorem mask_ok (o m : Int) (H : Heap) : Cl Tryd.prog pr02 21 [.int .i64 o, .int .i64 m] H fun v H' => v = .tuple [.int .i64 (maskR o m).1, .int .i64 (maskR o m).2] ∧ H' = H := by
  have f1 := bad_fact o m
  have f2 := over_fact o m
  unfold maskR
  refine Cl.enter Tryd.func21 rfl rfl Tryd.ntmps21 (by simp) ?_
  by_cases h1 : maskBad o m
  · have f1 := f1.trans (eq_false (fun h => h h1))
    rw [if_pos h1]
    refine walk f1 ?_
    exact ⟨rfl, rfl⟩
  · have f1 := f1.trans (eq_true h1)
    rw [if_neg h1]
    by_cases h2 : maskOver o m
    · have f2 := f2.trans (eq_false (fun h => h h2))
      rw [if_pos h2]
      refine walk (both f1 f2) ?_
      exact ⟨rfl, rfl⟩
    · have f2 := f2.trans (eq_true h2)
      rw [if_neg h2]
      refine walk (both f1 f2) ?_
      exact ⟨rfl, rfl⟩
end Go.Abs

/- Which functions of the program are those of the library. -/
namespace Go.Proofs
set_option linter.unusedVariables false
open Go.Shelf
def Tryd.lays156_ren : Go.Shelf.Ren := ⟨fun | 156 => 36 | 165 => 43 | 166 => 44 | 169 => 45 | 240 => 54 | 241 => 55 | 276 => 64 | 277 => 65 | n => n, fun | 31 => 45 | 9 => 9 | 3 => 3 | 4 => 4 | 0 => 0 | 20 => 20 | 72 => 53 | 76 => 57 | 70 => 50 | 37 => 51 | 75 => 56 | 127 => 65 | 164 => 75 | 5 => 5 | 80 => 59 | n => n, fun | n => n⟩
theorem Tryd.lays156 : Go.Proofs.Lays.n156 Tryd.prog Tryd.lays156_ren := {
  mixed := by kernel_rfl
  f156 := Tryd.func36.trans (congrArg some (by kernel_rfl))
  f165 := Tryd.func43.trans (congrArg some (by kernel_rfl))
  f166 := Tryd.func44.trans (congrArg some (by kernel_rfl))
  f169 := Tryd.func45.trans (congrArg some (by kernel_rfl))
  f240 := Tryd.func54.trans (congrArg some (by kernel_rfl))
  f241 := Tryd.func55.trans (congrArg some (by kernel_rfl))
  f276 := Tryd.func64.trans (congrArg some (by kernel_rfl))
  f277 := Tryd.func65.trans (congrArg some (by kernel_rfl))
  t0 := Tryd.underlying0
  a0 := Tryd.isAgg0
  z0 := Tryd.sizeOf0
  v0 := Tryd.zeroValue0
  t3 := Tryd.underlying3
  a3 := Tryd.isAgg3
  z3 := Tryd.sizeOf3
  v3 := Tryd.zeroValue3
  t4 := Tryd.underlying4
  a4 := Tryd.isAgg4
  z4 := Tryd.sizeOf4
  v4 := Tryd.zeroValue4
  t9 := Tryd.underlying9
  a9 := Tryd.isAgg9
  z9 := Tryd.sizeOf9
  v9 := Tryd.zeroValue9
  t20 := Tryd.underlying20
  a20 := Tryd.isAgg20
  z20 := Tryd.sizeOf20
  v20 := Tryd.zeroValue20
  t31 := Tryd.underlying45
  a31 := Tryd.isAgg45
  z31 := Tryd.sizeOf45
  v31 := Tryd.zeroValue45
  t37 := Tryd.underlying51
  a37 := Tryd.isAgg51
  z37 := Tryd.sizeOf51
  v37 := Tryd.zeroValue51
  t70 := Tryd.underlying50
  a70 := Tryd.isAgg50
  z70 := Tryd.sizeOf50
  v70 := Tryd.zeroValue50
  t72 := Tryd.underlying53
  a72 := Tryd.isAgg53
  z72 := Tryd.sizeOf53
  v72 := Tryd.zeroValue53
  t75 := Tryd.underlying56
  a75 := Tryd.isAgg56
  z75 := Tryd.sizeOf56
  v75 := Tryd.zeroValue56
  t76 := Tryd.underlying57
  a76 := Tryd.isAgg57
  z76 := Tryd.sizeOf57
  v76 := Tryd.zeroValue57
  t127 := Tryd.underlying65
  a127 := Tryd.isAgg65
  z127 := Tryd.sizeOf65
  v127 := Tryd.zeroValue65
  t164 := Tryd.underlying75
  a164 := Tryd.isAgg75
  z164 := Tryd.sizeOf75
  v164 := Tryd.zeroValue75 }
def Tryd.lays189_ren : Go.Shelf.Ren := ⟨fun | 189 => 47 | 125 => 57 | 257 => 56 | 128 => 74 | 129 => 75 | 294 => 66 | 295 => 67 | 296 => 68 | 297 => 69 | 298 => 70 | 299 => 71 | 216 => 51 | 300 => 72 | 301 => 73 | 328 => 80 | 329 => 81 | 330 => 82 | 331 => 83 | 332 => 84 | 215 => 59 | 343 => 87 | n => n, fun | 28 => 22 | 3 => 3 | 46 => 61 | 0 => 0 | 51 => 86 | 53 => 70 | 4 => 4 | 183 => 80 | 182 => 79 | 131 => 48 | 5 => 5 | 9 => 9 | 218 => 91 | 222 => 95 | 228 => 97 | 229 => 98 | n => n, fun | n => n⟩
theorem Tryd.lays189 : Go.Proofs.Lays.n189 Tryd.prog Tryd.lays189_ren := {
  mixed := by kernel_rfl
  f125 := Tryd.func57.trans (congrArg some (by kernel_rfl))
  f128 := Tryd.func74.trans (congrArg some (by kernel_rfl))
  f129 := Tryd.func75.trans (congrArg some (by kernel_rfl))
  f189 := Tryd.func47.trans (congrArg some (by kernel_rfl))
  f215 := Tryd.func59.trans (congrArg some (by kernel_rfl))
  f216 := Tryd.func51.trans (congrArg some (by kernel_rfl))
  f257 := Tryd.func56.trans (congrArg some (by kernel_rfl))
  f294 := Tryd.func66.trans (congrArg some (by kernel_rfl))
  f295 := Tryd.func67.trans (congrArg some (by kernel_rfl))
  f296 := Tryd.func68.trans (congrArg some (by kernel_rfl))
  f297 := Tryd.func69.trans (congrArg some (by kernel_rfl))
  f298 := Tryd.func70.trans (congrArg some (by kernel_rfl))
  f299 := Tryd.func71.trans (congrArg some (by kernel_rfl))
  f300 := Tryd.func72.trans (congrArg some (by kernel_rfl))
  f301 := Tryd.func73.trans (congrArg some (by kernel_rfl))
  f328 := Tryd.func80.trans (congrArg some (by kernel_rfl))
  f329 := Tryd.func81.trans (congrArg some (by kernel_rfl))
  f330 := Tryd.func82.trans (congrArg some (by kernel_rfl))
  f331 := Tryd.func83.trans (congrArg some (by kernel_rfl))
  f332 := Tryd.func84.trans (congrArg some (by kernel_rfl))
  f343 := Tryd.func87.trans (congrArg some (by kernel_rfl))
  t0 := Tryd.underlying0
  a0 := Tryd.isAgg0
  z0 := Tryd.sizeOf0
  v0 := Tryd.zeroValue0
  t3 := Tryd.underlying3
  a3 := Tryd.isAgg3
  z3 := Tryd.sizeOf3
  v3 := Tryd.zeroValue3
  t4 := Tryd.underlying4
  a4 := Tryd.isAgg4
  z4 := Tryd.sizeOf4
  v4 := Tryd.zeroValue4
  t5 := Tryd.underlying5
  a5 := Tryd.isAgg5
  z5 := Tryd.sizeOf5
  v5 := Tryd.zeroValue5
  t9 := Tryd.underlying9
  a9 := Tryd.isAgg9
  z9 := Tryd.sizeOf9
  v9 := Tryd.zeroValue9
  t28 := Tryd.underlying22
  a28 := Tryd.isAgg22
  z28 := Tryd.sizeOf22
  v28 := Tryd.zeroValue22
  t46 := Tryd.underlying61
  a46 := Tryd.isAgg61
  z46 := Tryd.sizeOf61
  v46 := Tryd.zeroValue61
  t51 := Tryd.underlying86
  a51 := Tryd.isAgg86
  z51 := Tryd.sizeOf86
  v51 := Tryd.zeroValue86
  t53 := Tryd.underlying70
  a53 := Tryd.isAgg70
  z53 := Tryd.sizeOf70
  v53 := Tryd.zeroValue70
  t131 := Tryd.underlying48
  a131 := Tryd.isAgg48
  z131 := Tryd.sizeOf48
  v131 := Tryd.zeroValue48
  t182 := Tryd.underlying79
  a182 := Tryd.isAgg79
  z182 := Tryd.sizeOf79
  v182 := Tryd.zeroValue79
  t183 := Tryd.underlying80
  a183 := Tryd.isAgg80
  z183 := Tryd.sizeOf80
  v183 := Tryd.zeroValue80
  t218 := Tryd.underlying91
  a218 := Tryd.isAgg91
  z218 := Tryd.sizeOf91
  v218 := Tryd.zeroValue91
  t222 := Tryd.underlying95
  a222 := Tryd.isAgg95
  z222 := Tryd.sizeOf95
  v222 := Tryd.zeroValue95
  t228 := Tryd.underlying97
  a228 := Tryd.isAgg97
  z228 := Tryd.sizeOf97
  v228 := Tryd.zeroValue97
  t229 := Tryd.underlying98
  a229 := Tryd.isAgg98
  z229 := Tryd.sizeOf98
  v229 := Tryd.zeroValue98 }
end Go.Proofs

/- Chapter 02: what is told by hand is so. -/
namespace Go.Proofs
set_option linter.unusedVariables false
open Go.Shelf Go.Abs
theorem Tryd.mixed02 : Tryd.prog.follows .mixedOrders = true := by kernel_rfl
theorem Tryd.plain02 : plainNames Tryd.prog = true := by kernel_rfl
theorem Tryd.extra156 : Builder.Extra Tryd.prog Tryd.lays156_ren := {
  sizeBuilder := by kernel_rfl
  liesBuilder := by kernel_rfl
  t5 := Tryd.underlying5
  a5 := Tryd.isAgg5
  z5 := Tryd.sizeOf5
  v5 := Tryd.zeroValue5
  infoByte := by kernel_rfl
  cellsByte := by kernel_rfl
  sizeByte := by kernel_rfl
  neB5 := by decide }
theorem Tryd.says36 : MemSays Tryd.prog 36 joinAV := says_join Tryd.lays156 Tryd.extra156 (by kernel_rfl) Tryd.func36 (by kernel_rfl) (by kernel_rfl)
theorem Tryd.baseOk : PrimsOk Tryd.prog base02 := memPrims_ok (by intro p hp; simp at hp; subst hp; exact Tryd.says36)
theorem Tryd.sortOk : PrimsOk Tryd.prog (sortPrims 47) := sortPrims_ok Tryd.lays189 (by kernel_rfl) Tryd.func47 (by kernel_rfl) (by kernel_rfl)
theorem Tryd.baseRl : PrimsRl base02 := memPrims_rl _
end Go.Proofs

/- The seat's own facts for its rows. -/
namespace Go.Proofs.YtfebefhibgpmjaaDoor
open Go.ChangeShapes Go.WideShapes Go.ChangeAt Go.RowKit Go.Abs
set_option linter.unusedVariables false
set_option maxRecDepth 100000

theorem own : ownKnob Tryd.prog.godebug = none := by kernel_rfl
theorem laidOut : laidOutB Tryd.prog = true := by kernel_rfl
theorem mixed : Tryd.prog.follows .mixedOrders = true := Tryd.mixed02
theorem plainN : plainNames Tryd.prog = true := Tryd.plain02
theorem primsOk : PrimsOk Tryd.prog pr02 := orPrims_ok Tryd.sortOk <| relocPrims_ok mixed plainN Tryd.baseOk (by kernel_rfl) [12] (by intro f hf; simp at hf; subst hf; exact of_decide_eq_true (by kernel_rfl))
theorem primsRl : PrimsRl pr02 := orPrims_rl (sortPrims_rl _) (relocPrims_rl Tryd.baseRl S02 [12])
theorem tabs_of (l : List (String × DataW Unit)) (W : World) (hL : laidMet Tryd.prog l W) (_ : True) : ∀ p ∈ S02, TabW Tryd.prog.globals.size W p := by
  intro p hp
  cases hp
theorem tabs_get : ∀ p ∈ S02, (Heap.startS Tryd.prog.globals.size S02).get p.1 = some p.2 := by
  intro p hp
  cases hp

end Go.Proofs.YtfebefhibgpmjaaDoor

/- Chapter 02: WhiteMasks, the reference walked. -/
namespace Go.Abs
open Go.Proofs
set_option maxRecDepth 100000
set_option linter.unusedVariables false
set_option linter.unusedSimpArgs false

theorem lt_step {p : Nat → Prop} {i : Nat} (h : ∀ j < i, p j) (hi : p i) : ∀ j < i + 1, p j := fun j hj => by
  rcases Nat.lt_or_ge j i with h' | h'
  · exact h j h'
  · obtain rfl : j = i := by omega
    exact hi
theorem refMask_ok (o m : Int) (H : Heap) : Cl Tryd.prog pr02 22 [.int .i64 o, .int .i64 m] H fun v H' => v = .tuple [.int .i64 (maskR o m).1, .int .i64 (maskR o m).2] ∧ H' = H := by
  refine Cl.enter Tryd.func22 rfl rfl Tryd.ntmps22 (by simp) ?_
  refine walk none0 ?_
  refine Wq.loop (fun k e H' => ∃ i : Nat, i ≤ 64 ∧ k = 64 - i ∧ H' = H ∧ e 0 = .int .i64 o ∧ e 1 = .int .i64 m ∧ e 6 = .int .i64 i ∧ ∀ j < i, ¬ (offM j = true ∧ (bitN o j || bitN m j) = true)) 64 ?_ ?_
  · exact ⟨0, by omega, by omega, rfl, by simp, by simp, by simp, fun j hj => by omega⟩
  · rintro k e H' ⟨i, hi, rfl, rfl, e0, e1, e6, hlo⟩
    by_cases hlt : i < 64
    · have hltI : (i : Int) < 64 := by omega
      have bad : offM i = true → (bitN o i || bitN m i) = true → maskR o m = (0, 22) := fun h1 h2 => by
        unfold maskR; rw [if_pos ⟨i, hlt, h1, h2⟩]
      by_cases h3 : i < 3
      · have h3 : (i : Int) < 3 := by omega
        have h6 : True := trivial
        have hoff : offM i = true := decide_eq_true (.inl (by omega))
        refine walk (both e0 (both e1 (both e6 (both hltI (both h3 h6))))) ?_
        refine (bit39_ok o i hlt H').mono fun v H1 _ ⟨ea, eb⟩ => ?_
        subst ea; subst eb
        cases hb : bitN o i with
        | true =>
          have hr := bad hoff (by rw [hb]; rfl)
          rw [hr]
          refine walk (both e0 (both e1 e6)) ?_
          exact ⟨rfl, rfl⟩
        | false =>
          refine walk (both e0 (both e1 e6)) ?_
          refine (bit39_ok m i hlt H1).mono fun v H2 _ ⟨ea, eb⟩ => ?_
          subst ea; subst eb
          cases hb2 : bitN m i with
          | true =>
            have hr := bad hoff (by rw [hb, hb2]; rfl)
            rw [hr]
            refine walk (both e0 (both e1 e6)) ?_
            exact ⟨rfl, rfl⟩
          | false =>
            refine walk (both e0 (both e1 e6)) ?_
            exact Roundq.normal (64 - (i + 1)) (by omega) ⟨i + 1, by omega, rfl, rfl, by simp [e0], by simp [e1], by simp, lt_step hlo (fun h => by rw [hb, hb2] at h; exact absurd h.2 (by simp))⟩
      · have h3 : ¬ (i : Int) < 3 := by omega
        by_cases h6 : 6 < i
        · have h6 : 6 < (i : Int) := by omega
          have hoff : offM i = true := decide_eq_true (.inr (by omega))
          refine walk (both e0 (both e1 (both e6 (both hltI (both h3 h6))))) ?_
          refine (bit39_ok o i hlt H').mono fun v H1 _ ⟨ea, eb⟩ => ?_
          subst ea; subst eb
          cases hb : bitN o i with
          | true =>
            have hr := bad hoff (by rw [hb]; rfl)
            rw [hr]
            refine walk (both e0 (both e1 e6)) ?_
            exact ⟨rfl, rfl⟩
          | false =>
            refine walk (both e0 (both e1 e6)) ?_
            refine (bit39_ok m i hlt H1).mono fun v H2 _ ⟨ea, eb⟩ => ?_
            subst ea; subst eb
            cases hb2 : bitN m i with
            | true =>
              have hr := bad hoff (by rw [hb, hb2]; rfl)
              rw [hr]
              refine walk (both e0 (both e1 e6)) ?_
              exact ⟨rfl, rfl⟩
            | false =>
              refine walk (both e0 (both e1 e6)) ?_
              exact Roundq.normal (64 - (i + 1)) (by omega) ⟨i + 1, by omega, rfl, rfl, by simp [e0], by simp [e1], by simp, lt_step hlo (fun h => by rw [hb, hb2] at h; exact absurd h.2 (by simp))⟩
        · have h6 : ¬ 6 < (i : Int) := by omega
          have hoff : offM i = false := decide_eq_false (by omega)
          refine walk (both e0 (both e1 (both e6 (both hltI (both h3 h6))))) ?_
          exact Roundq.normal (64 - (i + 1)) (by omega) ⟨i + 1, by omega, rfl, rfl, by simp [e0], by simp [e1], by simp, lt_step hlo (fun h => by rw [hoff] at h; exact absurd h.1 (by simp))⟩
    · obtain rfl : i = 64 := by omega
      have hnb : ¬ maskBad o m := fun ⟨i, hi, h⟩ => hlo i hi h
      refine walk (both e0 (both e1 e6)) ?_
      refine Wq.loop (fun k e H2 => ∃ i : Nat, i ≤ 64 ∧ k = 64 - i ∧ H2 = H' ∧ e 0 = .int .i64 o ∧ e 1 = .int .i64 m ∧ e 7 = .int .i64 i ∧ ∀ j < i, ¬ (bitN m j = true ∧ bitN o j = false)) 64 ?_ ?_
      · exact ⟨0, by omega, by omega, rfl, by simp [e0], by simp [e1], by simp, fun j hj => by omega⟩
      · rintro k e' H2 ⟨i, hi, rfl, rfl, q0, q1, q7, hlo2⟩
        by_cases hlt : i < 64
        · have hltI : (i : Int) < 64 := by omega
          refine walk (both q0 (both q1 (both q7 hltI))) ?_
          refine (bit39_ok m i hlt H2).mono fun v H3 _ ⟨ea, eb⟩ => ?_
          subst ea; subst eb
          cases hb : bitN m i with
          | false =>
            refine walk (both q0 (both q1 q7)) ?_
            exact Roundq.normal (64 - (i + 1)) (by omega) ⟨i + 1, by omega, rfl, rfl, by simp [q0], by simp [q1], by simp, lt_step hlo2 (fun h => by rw [hb] at h; exact absurd h.1 (by simp))⟩
          | true =>
            refine walk (both q0 (both q1 q7)) ?_
            refine (bit39_ok o i hlt H3).mono fun v H4 _ ⟨ea, eb⟩ => ?_
            subst ea; subst eb
            cases hb2 : bitN o i with
            | true =>
              refine walk (both q0 (both q1 q7)) ?_
              exact Roundq.normal (64 - (i + 1)) (by omega) ⟨i + 1, by omega, rfl, rfl, by simp [q0], by simp [q1], by simp, lt_step hlo2 (fun h => by rw [hb2] at h; exact absurd h.2 (by simp))⟩
            | false =>
              have hr : maskR o m = (0, 93) := by unfold maskR; rw [if_neg hnb, if_pos ⟨i, hlt, hb, hb2⟩]
              rw [hr]
              refine walk (both q0 (both q1 q7)) ?_
              exact ⟨rfl, rfl⟩
        · obtain rfl : i = 64 := by omega
          have hno : ¬ maskOver o m := fun ⟨i, hi, h⟩ => hlo2 i hi h
          have hr : maskR o m = (m, 0) := by unfold maskR; rw [if_neg hnb, if_neg hno]
          rw [hr]
          refine walk (both q0 (both q1 q7)) ?_
          exact ⟨rfl, rfl⟩
theorem whiteMasks_main (o m : Int) (H : Heap) : Cl Tryd.prog pr02 6 [.int .i64 o, .int .i64 m] H fun v _ => v = .bool true := by
  refine Cl.enter Tryd.func6 rfl rfl Tryd.ntmps6 (by simp) ?_
  refine walk none0 ?_
  refine (mask_ok o m H).mono fun v H1 _ ⟨ea, eb⟩ => ?_
  subst ea; subst eb
  refine walk none0 ?_
  refine (refMask_ok o m H1).mono fun v H2 _ ⟨ea, eb⟩ => ?_
  subst ea; subst eb
  have f2 := over_fact o m
  by_cases h1 : maskBad o m
  · have hr : maskR o m = (0, 22) := by unfold maskR; rw [if_pos h1]
    rw [hr]
    refine walk none0 ?_
    refine (lives_ok H2).mono fun v H3 _ ⟨ea, eb⟩ => ?_
    subst ea; subst eb
    refine walk none0 ?_
    rfl
  · by_cases h2 : maskOver o m
    · have hr : maskR o m = (0, 93) := by unfold maskR; rw [if_neg h1, if_pos h2]
      rw [hr]
      refine walk none0 ?_
      refine (lives_ok H2).mono fun v H3 _ ⟨ea, eb⟩ => ?_
      subst ea; subst eb
      refine walk none0 ?_
      rfl
    · have hr : maskR o m = (m, 0) := by unfold maskR; rw [if_neg h1, if_neg h2]
      have f2 := f2.trans (eq_true h2)
      rw [hr]
      refine walk f2 ?_
      refine (lives_ok H2).mono fun v H3 _ ⟨ea, eb⟩ => ?_
      subst ea; subst eb
      refine walk none0 ?_
      rfl
end Go.Abs

/- Chapter 02: lists that come in; what a whitelist is; WhiteHas. -/
namespace Go.Abs
open Go.Proofs
set_option maxRecDepth 100000
set_option linter.unusedVariables false
set_option linter.unusedSimpArgs false

theorem own29_ok {H : Heap} {a : Bool} {v : AV} {l : List Int} (h : Is H v l) (hL : l.length ≤ 100000) : Cl Tryd.prog pr02 29 [.agg [.bool a, v]] H fun r H' => ∃ w, r = .agg [.bool a, w] ∧ FreshG H H' 3 1 w l.length (ints l) := by
  obtain ⟨va, cap, ex, rfl, hc, hex⟩ := h.form
  refine Cl.enter Tryd.func29 rfl rfl Tryd.ntmps29 (by simp) ?_
  refine walk none0 ?_
  refine Wq.regionM [(2, 0), (3, 0), (4, 0), (5, 0), (0, 0), (1, 2), (6, 0), (7, 0)] (by kernel_rfl) ?_
  refine mwalk none0 ?_
  refine Dq.appendG (own := (.empty _)) (new := ints l) (q := l.length) rfl met_none (by simp (disch := omega) [-getElem?_pos, wrapI64, tdivN, tmodN, ipos, ineg, dpos, dneg, slc_l, slc_h, slc_lh, slc_hm, slc_lhm, slc_0, slcR_some, slcR_none, cutS_ok, cutA_ok, byteAt_ok]; first | done | (repeat' (first | rfl | apply And.intro))) ⟨_, rfl, by simp; first | done | (repeat' (first | rfl | apply And.intro))⟩ rfl (by kernel_rfl) (by kernel_rfl) ((Sl.push (Sl.push (Sl.push h _) _) _).src') (by simp) (ints_one l) (by omega) (by omega) fun w1 H1 o1 b1 s1 => ?_
  have hn1 := b1.1
  simp at hn1
  have hg1 : H1.get H.next = some (.cells [.bool a, .slice va l.length cap ex] 24 true false) := by
    rw [b1.2.2 H.next (by simp <;> omega) (by simp [slBlock] <;> omega)]
    simp (disch := omega) [ineg]
  have hg2 : H1.get (H.next + 1) = some (.cells [.bool false, .slice none 0 0 none] 24 true false) := by
    rw [b1.2.2 (H.next + 1) (by simp <;> omega) (by simp [slBlock] <;> omega)]
    simp (disch := omega) [ineg]
  rw [Nat.zero_add, List.nil_append] at o1
  have f1 : FreshG H H1 3 1 w1 l.length (ints l) := (FreshG.made (H0 := H) (cs := []) (n := 0) (elem := 3) (s := 1) (((Upd.rfl.push _).push _).push _) (by simp) (b := H.next + 1 + 1) (by omega) (by simp) (by simp)).app o1 b1 s1
  obtain ⟨wa1, wc1, wx1, rfl, hwc, hwx⟩ := o1.form
  refine mwalk (both hg1 hg2) ?_
  refine walk none0 ?_
  exact ⟨_, rfl, f1.put _ (by omega) (by omega) (by rcases s1 with e | e <;> rw [e] <;> simp [slBlock] <;> omega)⟩
theorem short9_ok {H : Heap} {a : Bool} {v : AV} {l : List Int} (h : Is H v l) : Cl Tryd.prog pr02 9 [.agg [.bool a, v]] H fun r H' => ∃ w, r = .agg [.bool a, w] ∧ FreshG H H' 3 1 w (l.take 200).length (ints (l.take 200)) := by
  obtain ⟨va, cap, ex, rfl, hc, hex⟩ := h.form
  refine Cl.enter Tryd.func9 rfl rfl Tryd.ntmps9 (by simp) ?_
  by_cases h1 : 200 < l.length
  · have hl2 : (l.take 200).length = 200 := by simp; omega
    obtain ⟨b, o, rfl⟩ : ∃ b o, va = some (b, o) := by
      obtain ⟨b, o, c, t, w, m, e, _⟩ := Sl.at h (by omega)
      exact ⟨b, o, e⟩
    have hcap : (200 : Int) ≤ cap := by omega
    have hcapN : 200 ≤ cap := by omega
    rw [hl2]
    refine walk (both h1 (both hcap (both hcapN hex))) ?_
    have kB : Keep H (((H.push (.cells [.bool a, .slice (some (b, o)) l.length cap ex] 24 true false)).push (.cells [.bool false, .slice none 0 0 none] 24 true false)).set H.next (.cells [.bool a, .slice (some (b, o)) 200 cap ex] 24 true false)) := ((Upd.rfl.push _).push _).set _ (by simp; omega) (by omega)
    have hct := (h.cut (n := 200) (by omega) hc hex).kept kB
    have ho := own29_ok (a := a) hct (by omega)
    rw [hl2] at ho
    refine ho.mono fun v H1 _ ⟨w, e1, f1⟩ => ?_
    subst e1
    have gz := (f1.keep.get (b := H.next + 1) (by simp)).trans (show (((H.push (.cells [.bool a, .slice (some (b, o)) l.length cap ex] 24 true false)).push (.cells [.bool false, .slice none 0 0 none] 24 true false)).set H.next (.cells [.bool a, .slice (some (b, o)) 200 cap ex] 24 true false)).get (H.next + 1) = some (.cells [.bool false, .slice none 0 0 none] 24 true false) by simp (disch := omega) [ineg])
    have f2 := f1.after kB
    have hn := f1.keep.next
    simp at hn
    obtain ⟨wa1, wc1, wx1, rfl, hwc, hwx⟩ := f1.own.form
    have hnew := f1.new
    simp at hnew
    refine walk gz ?_
    exact ⟨_, rfl, f2.put _ (by omega) (by omega) (fun e => by have := hnew _ e; omega)⟩
  · rw [List.take_of_length_le (by omega)]
    refine walk h1 ?_
    have kB : Keep H ((H.push (.cells [.bool a, .slice va l.length cap ex] 24 true false)).push (.cells [.bool false, .slice none 0 0 none] 24 true false)) := (Upd.rfl.push _).push _
    refine (own29_ok (h.kept kB) (by omega)).mono fun v H1 _ ⟨w, e1, f1⟩ => ?_
    subst e1
    have gz := (f1.keep.get (b := H.next + 1) (by simp)).trans (show ((H.push (.cells [.bool a, .slice va l.length cap ex] 24 true false)).push (.cells [.bool false, .slice none 0 0 none] 24 true false)).get (H.next + 1) = some (.cells [.bool false, .slice none 0 0 none] 24 true false) by simp (disch := omega) [ineg])
    have f2 := f1.after kB
    have hn := f1.keep.next
    simp at hn
    obtain ⟨wa1, wc1, wx1, rfl, hwc, hwx⟩ := f1.own.form
    have hnew := f1.new
    simp at hnew
    refine walk gz ?_
    exact ⟨_, rfl, f2.put _ (by omega) (by omega) (fun e => by have := hnew _ e; omega)⟩
/-- A list that can be a whitelist's. -/
def okAt (l : List Int) (i : Nat) : Prop := ∀ c, l[i]? = some c → 0 ≤ c ∧ (0 < i → ∀ b, l[i - 1]? = some b → b < c)
def okL (l : List Int) : Prop := ∀ i < l.length, okAt l i
open Classical in
noncomputable def canP (a : Bool) (l : List Int) : Bool := if a then decide (l = []) else decide (okL l ∧ l.length ≤ 32)
theorem can34_ok {H : Heap} {a : Bool} {v : AV} {l : List Int} (h : Is H v l) (hL : l.length ≤ 100000) : Cl Tryd.prog pr02 34 [.agg [.bool a, v]] H fun r H' => Keep H H' ∧ r = .bool (canP a l) := by
  obtain ⟨va, cap, ex, rfl, hc, hex⟩ := h.form
  have kB : Keep H (H.push (.cells [.bool a, .slice va l.length cap ex] 24 true false)) := Upd.rfl.push _
  unfold canP
  refine Cl.enter Tryd.func34 rfl rfl Tryd.ntmps34 (by simp) ?_
  cases a with
  | true =>
    by_cases h0 : l = []
    · subst h0
      refine walk none0 ?_
      exact ⟨kB, by simp⟩
    · have hl : l.length ≠ 0 := fun e => h0 (List.eq_nil_of_length_eq_zero e)
      refine walk none0 ?_
      exact ⟨kB, by simp [h0]⟩
  | false =>
    have gB : (H.push (.cells [.bool false, .slice va l.length cap ex] 24 true false)).get H.next = some (.cells [.bool false, .slice va l.length cap ex] 24 true false) := by simp
    have hB := h.kept kB
    refine walk none0 ?_
    generalize H.push (.cells [.bool false, .slice va l.length cap ex] 24 true false) = H1 at *
    refine Wq.loop (fun m e H' => ∃ i : Nat, i ≤ l.length ∧ m = l.length - i ∧ H' = H1 ∧ e 1 = .ptr (some (H.next, 0)) ∧ e 12 = .slice va l.length cap ex ∧ e 13 = .int .i64 l.length ∧ e 14 = .int .i64 i ∧ ∀ j < i, okAt l j) l.length ?_ ?_
    · exact ⟨0, by omega, by omega, rfl, by simp, by simp, by simp, by simp, fun j hj => by omega⟩
    · rintro m e H' ⟨i, hi, rfl, rfl, g1, g12, g13, g14, hlo⟩
      by_cases hlt : i < l.length
      · obtain ⟨c, hcx⟩ := geti_lt hlt
        obtain ⟨b, o, cc, t, w, mk, rfl, _, hb1, hb2, hb3, hb4⟩ := int_at hB hcx
        by_cases hneg : c < 0
        · have hno : ¬ (okL l ∧ l.length ≤ 32) := fun hh => by have := (hh.1 i hlt c hcx).1; omega
          refine walk (both g1 (both g12 (both g13 (both g14 (both hlt (both hb2 (both hb3 (both hb4 (both hneg gB))))))))) ?_
          exact ⟨kB, by simp [hno]⟩
        · by_cases h0 : 0 < i
          · have h0I : 0 < (i : Int) := by omega
            obtain ⟨d, hdx⟩ := geti_lt (l := l) (i := i - 1) (by omega)
            obtain ⟨b', o', cc', t', w', mk', e', _, _, hb2', hb3', hb5⟩ := int_at hB hdx
            injection e' with e'; injection e' with e1 e2; subst e1; subst e2
            rw [hb2] at hb2'; injection hb2' with e'; injection e' with e1 e2 e4 e5; subst e1; subst e2; subst e4; subst e5
            have hiI : ((i : Int) - 1) = ((i - 1 : Nat) : Int) := by omega
            by_cases hle : c ≤ d
            · have hno : ¬ (okL l ∧ l.length ≤ 32) := fun hh => by have := (hh.1 i hlt c hcx).2 h0 d hdx; omega
              refine walk (both g1 (both g12 (both g13 (both g14 (both hlt (both hb2 (both hb3 (both hb4 (both hneg (both gB (both h0I (both hb3' (both hb5 hle))))))))))))) ?_
              exact ⟨kB, by simp [hno]⟩
            · have hok : okAt l i := fun c' hc' => by
                rw [hcx] at hc'; injection hc' with hc'; subst hc'
                exact ⟨by omega, fun _ b hb => by rw [hdx] at hb; injection hb with hb; subst hb; omega⟩
              refine walk (both g1 (both g12 (both g13 (both g14 (both hlt (both hb2 (both hb3 (both hb4 (both hneg (both gB (both h0I (both hb3' (both hb5 hle))))))))))))) ?_
              exact Roundq.normal (l.length - (i + 1)) (by omega) ⟨i + 1, by omega, rfl, rfl, by simp [g1], by simp [g12], by simp [g13], by simp, lt_step hlo hok⟩
          · have h0I : ¬ 0 < (i : Int) := by omega
            have hok : okAt l i := fun c' hc' => by
              rw [hcx] at hc'; injection hc' with hc'; subst hc'
              exact ⟨by omega, fun h => by omega⟩
            refine walk (both g1 (both g12 (both g13 (both g14 (both hlt (both hb2 (both hb3 (both hb4 (both hneg (both gB h0I)))))))))) ?_
            exact Roundq.normal (l.length - (i + 1)) (by omega) ⟨i + 1, by omega, rfl, rfl, by simp [g1], by simp [g12], by simp [g13], by simp, lt_step hlo hok⟩
      · obtain rfl : i = l.length := by omega
        have hok : okL l := hlo
        by_cases h32 : l.length ≤ 32
        · have h32I : (l.length : Int) ≤ 32 := by omega
          refine walk (both g1 (both g12 (both g13 (both g14 (both gB h32I))))) ?_
          exact ⟨kB, by simp [hok, h32]⟩
        · have h32I : ¬ (l.length : Int) ≤ 32 := by omega
          refine walk (both g1 (both g12 (both g13 (both g14 (both gB h32I))))) ?_
          exact ⟨kB, by simp [h32]⟩
theorem refCan15_ok {H : Heap} {a : Bool} {v : AV} {l : List Int} (h : Is H v l) (hL : l.length ≤ 100000) : Cl Tryd.prog pr02 15 [.agg [.bool a, v]] H fun r H' => Keep H H' ∧ r = .bool (canP a l) := by
  obtain ⟨va, cap, ex, rfl, hc, hex⟩ := h.form
  have kB : Keep H (H.push (.cells [.bool a, .slice va l.length cap ex] 24 true false)) := Upd.rfl.push _
  have gB : (H.push (.cells [.bool a, .slice va l.length cap ex] 24 true false)).get H.next = some (.cells [.bool a, .slice va l.length cap ex] 24 true false) := by simp
  have hB := h.kept kB
  unfold canP
  refine Cl.enter Tryd.func15 rfl rfl Tryd.ntmps15 (by simp) ?_
  refine walk none0 ?_
  generalize H.push (.cells [.bool a, .slice va l.length cap ex] 24 true false) = H1 at *
  refine Wq.loop (fun m e H' => ∃ i : Nat, i ≤ l.length ∧ m = l.length - i ∧ H' = H1 ∧ e 1 = .ptr (some (H.next, 0)) ∧ e 3 = .int .i64 i ∧ (0 < i → a = false) ∧ (∀ j < i, okAt l j) ∧ i ≤ 32) l.length ?_ ?_
  · exact ⟨0, by omega, by omega, rfl, by simp, by simp, by simp, fun j hj => by omega, by omega⟩
  · rintro m e H' ⟨i, hi, rfl, rfl, g1, g3, hall, hlo, hi32⟩
    by_cases hlt : i < l.length
    · obtain ⟨c, hcx⟩ := geti_lt hlt
      obtain ⟨b, o, cc, t, w, mk, rfl, _, hb1, hb2, hb3, hb4⟩ := int_at hB hcx
      have hne : l ≠ [] := by rintro rfl; simp at hlt
      cases a with
      | true =>
        refine walk (both g1 (both g3 (both hlt gB))) ?_
        refine Wq.regionD [0, 1, 2, 3, 4, 5, 6, 7, 8, 9, 10, 11, 12, 13, 14, 15, 16, 17, 18, 19, 20, 21, 22, 23, 24, 25, 26, 27, 28, 29, 30, 31] (by kernel_rfl) ?_
        refine walk (both g1 (both g3 (both hlt gB))) ?_
        exact ⟨kB, by simp [hne]⟩
      | false =>
        by_cases hneg : c < 0
        · have hno : ¬ (okL l ∧ l.length ≤ 32) := fun hh => by have := (hh.1 i hlt c hcx).1; omega
          refine walk (both g1 (both g3 (both hlt gB))) ?_
          refine Wq.regionD [0, 1, 2, 3, 4, 5, 6, 7, 8, 9, 10, 11, 12, 13, 14, 15, 16, 17, 18, 19, 20, 21, 22, 23, 24, 25, 26, 27, 28, 29, 30, 31] (by kernel_rfl) ?_
          refine walk (both g1 (both g3 (both hlt (both gB (both hb2 (both hb3 (both hb4 hneg))))))) ?_
          exact ⟨kB, by simp [hno]⟩
        · by_cases h0 : 0 < i
          · have h0I : 0 < (i : Int) := by omega
            obtain ⟨d, hdx⟩ := geti_lt (l := l) (i := i - 1) (by omega)
            obtain ⟨b', o', cc', t', w', mk', e', _, _, hb2', hb3', hb5⟩ := int_at hB hdx
            injection e' with e'; injection e' with e1 e2; subst e1; subst e2
            rw [hb2] at hb2'; injection hb2' with e'; injection e' with e1 e2 e4 e5; subst e1; subst e2; subst e4; subst e5
            by_cases hle : c ≤ d
            · have hno : ¬ (okL l ∧ l.length ≤ 32) := fun hh => by have := (hh.1 i hlt c hcx).2 h0 d hdx; omega
              refine walk (both g1 (both g3 (both hlt gB))) ?_
              refine Wq.regionD [0, 1, 2, 3, 4, 5, 6, 7, 8, 9, 10, 11, 12, 13, 14, 15, 16, 17, 18, 19, 20, 21, 22, 23, 24, 25, 26, 27, 28, 29, 30, 31] (by kernel_rfl) ?_
              refine walk (both g1 (both g3 (both hlt (both gB (both hb2 (both hb3 (both hb4 (both hneg (both h0I (both hb3' (both hb5 hle))))))))))) ?_
              exact ⟨kB, by simp [hno]⟩
            · have hok : okAt l i := fun c' hc' => by
                rw [hcx] at hc'; injection hc' with hc'; subst hc'
                exact ⟨by omega, fun _ b hb => by rw [hdx] at hb; injection hb with hb; subst hb; omega⟩
              by_cases h32 : 32 ≤ i
              · have h32I : 32 ≤ (i : Int) := by omega
                have hno : ¬ (okL l ∧ l.length ≤ 32) := fun hh => by omega
                refine walk (both g1 (both g3 (both hlt gB))) ?_
                refine Wq.regionD [0, 1, 2, 3, 4, 5, 6, 7, 8, 9, 10, 11, 12, 13, 14, 15, 16, 17, 18, 19, 20, 21, 22, 23, 24, 25, 26, 27, 28, 29, 30, 31] (by kernel_rfl) ?_
                refine walk (both g1 (both g3 (both hlt (both gB (both hb2 (both hb3 (both hb4 (both hneg (both h0I (both hb3' (both hb5 (both hle h32I)))))))))))) ?_
                exact ⟨kB, by simp [hno]⟩
              · have h32I : ¬ 32 ≤ (i : Int) := by omega
                refine walk (both g1 (both g3 (both hlt gB))) ?_
                refine Wq.regionD [0, 1, 2, 3, 4, 5, 6, 7, 8, 9, 10, 11, 12, 13, 14, 15, 16, 17, 18, 19, 20, 21, 22, 23, 24, 25, 26, 27, 28, 29, 30, 31] (by kernel_rfl) ?_
                refine walk (both g1 (both g3 (both hlt (both gB (both hb2 (both hb3 (both hb4 (both hneg (both h0I (both hb3' (both hb5 (both hle h32I)))))))))))) ?_
                exact Roundq.normal (l.length - (i + 1)) (by omega) ⟨i + 1, by omega, rfl, rfl, by simp [g1], by simp, fun _ => rfl, lt_step hlo hok, by omega⟩
          · have h0I : ¬ 0 < (i : Int) := by omega
            have h32I : ¬ 32 ≤ (i : Int) := by omega
            have hok : okAt l i := fun c' hc' => by
              rw [hcx] at hc'; injection hc' with hc'; subst hc'
              exact ⟨by omega, fun h => by omega⟩
            refine walk (both g1 (both g3 (both hlt gB))) ?_
            refine Wq.regionD [0, 1, 2, 3, 4, 5, 6, 7, 8, 9, 10, 11, 12, 13, 14, 15, 16, 17, 18, 19, 20, 21, 22, 23, 24, 25, 26, 27, 28, 29, 30, 31] (by kernel_rfl) ?_
            refine walk (both g1 (both g3 (both hlt (both gB (both hb2 (both hb3 (both hb4 (both hneg (both h0I h32I))))))))) ?_
            exact Roundq.normal (l.length - (i + 1)) (by omega) ⟨i + 1, by omega, rfl, rfl, by simp [g1], by simp, fun _ => rfl, lt_step hlo hok, by omega⟩
    · obtain rfl : i = l.length := by omega
      have hok : okL l := hlo
      cases a with
      | true =>
        have h0 : l = [] := by
          cases l with
          | nil => rfl
          | cons x r => exact absurd (hall (by simp)) (by simp)
        subst h0
        refine walk (both g1 (both g3 gB)) ?_
        exact ⟨kB, by simp⟩
      | false =>
        refine walk (both g1 (both g3 gB)) ?_
        exact ⟨kB, by simp [hok, hi32]⟩
end Go.Abs

/- Chapter 02: WhiteHas, walked. -/
namespace Go.Abs
open Go.Proofs
set_option maxRecDepth 100000
set_option linter.unusedVariables false
set_option linter.unusedSimpArgs false

theorem in31_ok {H : Heap} {v : AV} {l : List Int} (h : Is H v l) (hL : l.length ≤ 100000) (n : Int) : Cl Tryd.prog pr02 31 [v, .int .i64 n] H fun r H' => H' = H ∧ r = .bool (decide (n ∈ l)) := by
  obtain ⟨va, cap, ex, rfl, hc, hex⟩ := h.form
  refine Cl.enter Tryd.func31 rfl rfl Tryd.ntmps31 (by simp) ?_
  refine walk none0 ?_
  refine Wq.loop (fun m e H' => ∃ i : Nat, i ≤ l.length ∧ m = l.length - i ∧ H' = H ∧ e 0 = .slice va l.length cap ex ∧ e 1 = .int .i64 n ∧ e 5 = .int .i64 i ∧ ∀ j < i, l[j]? ≠ some n) l.length ?_ ?_
  · exact ⟨0, by omega, by omega, rfl, by simp, by simp, by simp, fun j hj => by omega⟩
  · rintro m e H' ⟨i, hi, rfl, rfl, g0, g1, g5, hlo⟩
    by_cases hlt : i < l.length
    · obtain ⟨c, hcx⟩ := geti_lt hlt
      obtain ⟨b, o, cc, t, w, mk, rfl, _, hb1, hb2, hb3, hb4⟩ := int_at h hcx
      by_cases hn : c = n
      · subst hn
        refine walk (both g0 (both g1 (both g5 (both hlt (both hb2 (both hb3 hb4)))))) ?_
        exact ⟨rfl, by rw [decide_eq_true (List.mem_of_getElem? hcx)]⟩
      · refine walk (both g0 (both g1 (both g5 (both hlt (both hb2 (both hb3 (both hb4 hn))))))) ?_
        exact Roundq.normal (l.length - (i + 1)) (by omega) ⟨i + 1, by omega, rfl, rfl, by simp [g0], by simp [g1], by simp, lt_step hlo (fun e => by rw [hcx] at e; injection e with e; exact hn e)⟩
    · obtain rfl : i = l.length := by omega
      have hno : n ∉ l := fun hm => by
        obtain ⟨j, hj⟩ := List.mem_iff_getElem?.1 hm
        exact hlo j (List.getElem?_eq_some_iff.1 hj).1 hj
      refine walk (both g0 (both g1 g5)) ?_
      exact ⟨rfl, by rw [decide_eq_false hno]⟩
theorem nan52_ok (x : Int) (H : Heap) : Cl Tryd.prog pr02 52 [.int .i64 x] H fun r H' => r = .bool false ∧ H' = H := by
  refine Cl.enter Tryd.func52 rfl rfl Tryd.ntmps52 (by simp) ?_
  refine walk none0 ?_
  exact ⟨rfl, rfl⟩
theorem less51_ok (x y : Int) (H : Heap) : Cl Tryd.prog pr02 51 [.int .i64 x, .int .i64 y] H fun r H' => r = .bool (decide (x < y)) ∧ H' = H := by
  have n59 : ∀ (x : Int) (H : Heap), Cl Tryd.prog pr02 59 [.int .i64 x] H fun r H' => r = .bool false ∧ H' = H := fun x H => by
    refine Cl.enter Tryd.func59 rfl rfl Tryd.ntmps59 (by simp) ?_
    refine walk none0 ?_
    exact ⟨rfl, rfl⟩
  refine Cl.enter Tryd.func51 rfl rfl Tryd.ntmps51 (by simp) ?_
  refine walk none0 ?_
  refine (n59 x H).mono fun v H1 _ ⟨ea, eb⟩ => ?_
  subst ea; subst eb
  refine walk none0 ?_
  exact ⟨rfl, rfl⟩
theorem sorted_lt {l : List Int} (h : okL l) : ∀ {i j : Nat} {a b : Int}, i < j → l[i]? = some a → l[j]? = some b → a < b := by
  intro i j
  induction j with
  | zero => intro a b hij; omega
  | succ j ih =>
    intro a b hij ha hb
    have hj := (List.getElem?_eq_some_iff.1 hb).1
    obtain ⟨c, hc⟩ := geti_lt (l := l) (i := j) (by omega)
    have h1 := (h (j + 1) hj b hb).2 (by omega) c (by simpa using hc)
    rcases Nat.lt_or_ge i j with h' | h'
    · have := ih h' ha hc; omega
    · obtain rfl : i = j := by omega
      rw [ha] at hc; injection hc with hc; omega
theorem search41_ok {H : Heap} {v : AV} {l : List Int} (h : Is H v l) (hL : l.length ≤ 100000) (hok : okL l) (n : Int) : Cl Tryd.prog pr02 41 [v, .int .i64 n] H fun r H' => H' = H ∧ ∃ k : Int, r = .tuple [.int .i64 k, .bool (decide (n ∈ l))] := by
  obtain ⟨va, cap, ex, rfl, hc, hex⟩ := h.form
  refine Cl.enter Tryd.func41 rfl rfl Tryd.ntmps41 (by simp) ?_
  refine walk none0 ?_
  refine Wq.loop (fun m e H' => ∃ i j : Nat, i ≤ j ∧ j ≤ l.length ∧ m = j - i ∧ H' = H ∧ e 0 = .slice va l.length cap ex ∧ e 1 = .int .i64 n ∧ e 6 = .int .i64 l.length ∧ e 7 = .int .i64 i ∧ e 8 = .int .i64 j ∧ (∀ (k : Nat) (a : Int), k < i → l[k]? = some a → a < n) ∧ (∀ (k : Nat) (a : Int), j ≤ k → l[k]? = some a → n ≤ a)) l.length ?_ ?_
  · exact ⟨0, l.length, by omega, by omega, by omega, rfl, by simp, by simp, by simp, by simp, by simp, fun k a hk => by omega, fun k a hk ha => by have := (List.getElem?_eq_some_iff.1 ha).1; omega⟩
  · rintro m e H' ⟨i, j, hij, hj, rfl, rfl, g0, g1, g6, g7, g8, hlo, hhi⟩
    by_cases hlt : i < j
    · obtain ⟨md, hmd⟩ : ∃ md, md = (i + j) / 2 := ⟨_, rfl⟩
      obtain ⟨c, hcx⟩ := geti_lt (l := l) (i := md) (by omega)
      obtain ⟨b, o, cc, t, w, mk, rfl, _, hb1, hb2, hb3, hb4⟩ := int_at h hcx
      have hltI : (i : Int) < j := by omega
      have hm1 : IntKind.u64.wrap ((i : Int) + j) = (i : Int) + j := by simp [IntKind.wrap, IntKind.signed, IntKind.bits]; omega
      have hm2 : ((i : Int) + j).fdiv (2 ^ min 1 IntKind.u64.bits) = (md : Int) := by
        rw [show min 1 IntKind.u64.bits = 1 from rfl, Int.fdiv_eq_ediv_of_nonneg _ (by omega)]
        omega
      have hm3 : IntKind.i64.wrap (md : Int) = md := by simp [IntKind.wrap, IntKind.signed, IntKind.bits]; omega
      have hmdl : md < l.length := by omega
      have hmdI : (md : Int) < l.length := by omega
      refine walk (both g0 (both g1 (both g6 (both g7 (both g8 (both hltI (both hm1 (both hm2 (both hm3 (both hmdl (both hmdI (both hb2 (both hb3 hb4))))))))))))) ?_
      refine (less51_ok c n H').mono fun v H1 _ ⟨ea, eb⟩ => ?_
      subst ea; subst eb
      by_cases hcn : c < n
      · refine walk (both g0 (both g1 (both g6 (both g7 (both g8 hcn))))) ?_
        refine Roundq.normal (j - (md + 1)) (by omega) ⟨md + 1, j, by omega, hj, rfl, rfl, by simp [g0], by simp [g1], by simp [g6], by simp, by simp [g8], fun k a hk ha => ?_, hhi⟩
        rcases Nat.lt_or_ge k md with h' | h'
        · have := sorted_lt hok h' ha hcx; omega
        · obtain rfl : k = md := by omega
          rw [hcx] at ha; injection ha with ha; omega
      · refine walk (both g0 (both g1 (both g6 (both g7 (both g8 hcn))))) ?_
        refine Roundq.normal (md - i) (by omega) ⟨i, md, by omega, by omega, rfl, rfl, by simp [g0], by simp [g1], by simp [g6], by simp [g7], by simp, hlo, fun k a hk ha => ?_⟩
        rcases Nat.lt_or_ge md k with h' | h'
        · have := sorted_lt hok h' hcx ha; omega
        · obtain rfl : k = md := by omega
          rw [hcx] at ha; injection ha with ha; omega
    · obtain rfl : i = j := by omega
      by_cases hil : i < l.length
      · obtain ⟨c, hcx⟩ := geti_lt hil
        obtain ⟨b, o, cc, t, w, mk, rfl, _, hb1, hb2, hb3, hb4⟩ := int_at h hcx
        have hilI : (i : Int) < l.length := by omega
        by_cases hcn : c = n
        · subst hcn
          have hm : c ∈ l := List.mem_of_getElem? hcx
          rw [decide_eq_true hm]
          refine walk (both g0 (both g1 (both g6 (both g7 (both g8 (both hil (both hilI (both hb2 (both hb3 hb4))))))))) ?_
          exact ⟨rfl, _, rfl⟩
        · have hm : n ∉ l := fun hm => by
            obtain ⟨k, hk⟩ := List.mem_iff_getElem?.1 hm
            rcases Nat.lt_or_ge k i with h' | h'
            · have := hlo k n h' hk; omega
            · rcases Nat.lt_or_ge i k with h'' | h''
              · have h1 := sorted_lt hok h'' hcx hk
                have h2 := hhi i c (Nat.le_refl _) hcx
                omega
              · obtain rfl : k = i := by omega
                rw [hcx] at hk; injection hk with hk; exact hcn hk
          rw [decide_eq_false hm]
          refine walk (both g0 (both g1 (both g6 (both g7 (both g8 (both hil (both hilI (both hb2 (both hb3 (both hb4 hcn)))))))))) ?_
          refine (nan52_ok c H').mono fun v H1 _ ⟨ea, eb⟩ => ?_
          subst ea; subst eb
          refine walk g7 ?_
          exact ⟨rfl, _, rfl⟩
      · have hm : n ∉ l := fun hm => by
          obtain ⟨k, hk⟩ := List.mem_iff_getElem?.1 hm
          have hkl := (List.getElem?_eq_some_iff.1 hk).1
          have := hlo k n (by omega) hk
          omega
        have hilI : ¬ (i : Int) < l.length := by omega
        rw [decide_eq_false hm]
        refine walk (both g0 (both g1 (both g6 (both g7 (both g8 hilI))))) ?_
        exact ⟨rfl, _, rfl⟩
/-- What is in a whitelist. -/
noncomputable def hasP (a : Bool) (l : List Int) (n : Int) : Bool := canP a l && decide (0 ≤ n) && (a || decide (n ∈ l))
theorem canP_ok {a : Bool} {l : List Int} (h : canP a l = true) : okL l ∧ l.length ≤ 100000 := by
  unfold canP at h
  cases a with
  | true =>
    simp at h
    subst h
    exact ⟨fun i hi => by simp at hi, by simp⟩
  | false =>
    simp at h
    exact ⟨h.1, by omega⟩
theorem has30_ok {H : Heap} {a : Bool} {v : AV} {l : List Int} (h : Is H v l) (hL : l.length ≤ 100000) (n : Int) : Cl Tryd.prog pr02 30 [.agg [.bool a, v], .int .i64 n] H fun r H' => Keep H H' ∧ r = .bool (hasP a l n) := by
  obtain ⟨va, cap, ex, rfl, hc, hex⟩ := h.form
  have kB : Keep H (H.push (.cells [.bool a, .slice va l.length cap ex] 24 true false)) := Upd.rfl.push _
  have gB : (H.push (.cells [.bool a, .slice va l.length cap ex] 24 true false)).get H.next = some (.cells [.bool a, .slice va l.length cap ex] 24 true false) := by simp
  have nB : H.next < (H.push (.cells [.bool a, .slice va l.length cap ex] 24 true false)).next := by simp
  have hB := h.kept kB
  unfold hasP
  refine Cl.enter Tryd.func30 rfl rfl Tryd.ntmps30 (by simp) ?_
  by_cases h0 : n < 0
  · have e : decide (0 ≤ n) = false := decide_eq_false (by omega)
    rw [e, Bool.and_false, Bool.false_and]
    refine walk h0 ?_
    exact ⟨kB, rfl⟩
  · have e : decide (0 ≤ n) = true := decide_eq_true (by omega)
    rw [e, Bool.and_true]
    refine walk h0 ?_
    generalize H.push (.cells [.bool a, .slice va l.length cap ex] 24 true false) = H1 at *
    refine (can34_ok hB hL).mono fun v H2 _ ⟨kA, ea⟩ => ?_
    subst ea
    have g2 := (kA.get nB).trans gB
    cases hcp : canP a l with
    | false =>
      refine walk none0 ?_
      exact ⟨kB.then kA, rfl⟩
    | true =>
      obtain ⟨hok, _⟩ := canP_ok hcp
      refine walk g2 ?_
      refine (search41_ok (hB.kept kA) hL hok n).mono fun v H3 _ ⟨ea, k, eb⟩ => ?_
      subst ea; subst eb
      cases hin : decide (n ∈ l) with
      | true =>
        refine walk none0 ?_
        exact ⟨kB.then kA, by simp⟩
      | false =>
        refine walk g2 ?_
        exact ⟨kB.then kA, by simp⟩
theorem Has10_ok {H : Heap} {a : Bool} {v : AV} {l : List Int} (h : Is H v l) (hL : l.length ≤ 100000) (n : Int) : Cl Tryd.prog pr02 10 [.agg [.bool a, v], .int .i64 n] H fun r H' => Keep H H' ∧ r = .bool (hasP a l n) := by
  obtain ⟨va, cap, ex, rfl, hc, hex⟩ := h.form
  have kB : Keep H (H.push (.cells [.bool a, .slice va l.length cap ex] 24 true false)) := Upd.rfl.push _
  refine Cl.enter Tryd.func10 rfl rfl Tryd.ntmps10 (by simp) ?_
  refine walk none0 ?_
  refine (has30_ok (h.kept kB) hL n).mono fun v H2 _ ⟨kA, ea⟩ => ?_
  subst ea
  refine walk none0 ?_
  exact ⟨kB.then kA, rfl⟩
theorem refHas11_ok {H : Heap} {a : Bool} {v : AV} {l : List Int} (h : Is H v l) (hL : l.length ≤ 100000) (n : Int) : Cl Tryd.prog pr02 11 [.agg [.bool a, v], .int .i64 n] H fun r H' => Keep H H' ∧ r = .bool (hasP a l n) := by
  obtain ⟨va, cap, ex, rfl, hc, hex⟩ := h.form
  have kB : Keep H (H.push (.cells [.bool a, .slice va l.length cap ex] 24 true false)) := Upd.rfl.push _
  have gB : (H.push (.cells [.bool a, .slice va l.length cap ex] 24 true false)).get H.next = some (.cells [.bool a, .slice va l.length cap ex] 24 true false) := by simp
  have nB : H.next < (H.push (.cells [.bool a, .slice va l.length cap ex] 24 true false)).next := by simp
  have hB := h.kept kB
  unfold hasP
  refine Cl.enter Tryd.func11 rfl rfl Tryd.ntmps11 (by simp) ?_
  refine walk none0 ?_
  generalize H.push (.cells [.bool a, .slice va l.length cap ex] 24 true false) = H1 at *
  refine (refCan15_ok hB hL).mono fun v H2 _ ⟨kA, ea⟩ => ?_
  subst ea
  have g2 := (kA.get nB).trans gB
  cases hcp : canP a l with
  | false =>
    refine walk none0 ?_
    exact ⟨kB.then kA, rfl⟩
  | true =>
    by_cases h0 : 0 ≤ n
    · rw [decide_eq_true h0]
      cases a with
      | true =>
        refine walk (both g2 h0) ?_
        exact ⟨kB.then kA, rfl⟩
      | false =>
        refine walk (both g2 h0) ?_
        refine (in31_ok (hB.kept kA) hL n).mono fun v H3 _ ⟨ea, eb⟩ => ?_
        subst ea; subst eb
        refine walk none0 ?_
        exact ⟨kB.then kA, by simp⟩
    · rw [decide_eq_false h0]
      refine walk (both g2 h0) ?_
      exact ⟨kB.then kA, rfl⟩
end Go.Abs

/- Chapter 02: WhiteHas. -/
namespace Go.Abs
open Go.Proofs
set_option maxRecDepth 100000
set_option linter.unusedVariables false
set_option linter.unusedSimpArgs false

theorem FreshG.is {H0 H : Heap} {elem : TypeId} {v : AV} {l : List Int} (f : FreshG H0 H elem 1 v l.length (ints l)) : Is H v l := f.own.sl
theorem take_twice (l : List Int) : (l.take 200).take 200 = l.take 200 := by rw [List.take_take]; rfl
theorem whiteHas_main {H : Heap} {a : Bool} {v : AV} {l : List Int} (h : Is H v l) (n : Int) : Cl Tryd.prog pr02 3 [.agg [.bool a, v], .int .i64 n] H fun r _ => r = .bool true := by
  obtain ⟨va, cap, ex, rfl, hc, hex⟩ := h.form
  have kB : Keep H (H.push (.cells [.bool a, .slice va l.length cap ex] 24 true false)) := Upd.rfl.push _
  have nB : H.next < (H.push (.cells [.bool a, .slice va l.length cap ex] 24 true false)).next := by simp
  have hB := h.kept kB
  refine Cl.enter Tryd.func3 rfl rfl Tryd.ntmps3 (by simp) ?_
  refine walk none0 ?_
  have gB : (H.push (.cells [.bool a, .slice va l.length cap ex] 24 true false)).get H.next = some (.cells [.bool a, .slice va l.length cap ex] 24 true false) := by simp
  generalize H.push (.cells [.bool a, .slice va l.length cap ex] 24 true false) = H1 at *
  refine (short9_ok hB).mono fun v H2 _ ⟨w, ea, f1⟩ => ?_
  subst ea
  have hL : (l.take 200).length ≤ 100000 := by simp; omega
  generalize hl2 : l.take 200 = l2 at *
  obtain ⟨wa, wc, wx, rfl, hwc, hwx⟩ := f1.own.form
  have g2 := (f1.keep.get nB).trans gB
  have n2 : H.next < H2.next := Nat.lt_of_lt_of_le nB f1.keep.next
  have hnew := f1.new
  have h2 : Is (H2.set H.next (.cells [.bool a, .slice wa l2.length wc wx] 24 true false)) (.slice wa l2.length wc wx) l2 := Sl.set f1.is _ (fun e => by have := hnew _ e; omega)
  have g3 : (H2.set H.next (.cells [.bool a, .slice wa l2.length wc wx] 24 true false)).get H.next = some (.cells [.bool a, .slice wa l2.length wc wx] 24 true false) := Heap.get_set_same _ _ _
  refine walk g2 ?_
  refine Wq.regionM [(0, 0), (1, 0), (2, 0), (3, 0), (4, 3), (5, 0), (6, 0), (7, 0), (8, 0), (9, 0), (10, 0), (11, 0)] (by kernel_rfl) ?_
  refine mwalk none0 ?_
  have hs := short9_ok (a := a) h2
  have ht : l2.take 200 = l2 := by rw [← hl2]; exact take_twice l
  rw [ht] at hs
  generalize hH3 : H2.set H.next (.cells [.bool a, .slice wa l2.length wc wx] 24 true false) = H3 at *
  have n3 : H.next < H3.next := by rw [← hH3]; simpa using n2
  refine hs.mono fun v H4 _ ⟨w, ea, f4⟩ => ?_
  subst ea
  obtain ⟨ua, uc, ux, rfl, huc, hux⟩ := f4.own.form
  have g4 := (f4.keep.get n3).trans g3
  have n4 : H.next < H4.next := Nat.lt_of_lt_of_le n3 f4.keep.next
  have h4 := h2.kept f4.keep
  refine mwalk (both g3 g4) ?_
  refine (Has10_ok f4.is hL n).mono fun v H5 _ ⟨kA, ea⟩ => ?_
  subst ea
  have g5 := (kA.get n4).trans g4
  have h5 := h4.kept kA
  refine mwalk (both g3 (both g4 g5)) ?_
  refine (refHas11_ok h5 hL n).mono fun v H6 _ ⟨kB, ea⟩ => ?_
  subst ea
  generalize hasP a l2 n = z
  refine mwalk none0 ?_
  refine (lives_ok _).mono fun v H7 _ ⟨ea, eb⟩ => ?_
  subst ea; subst eb
  refine mwalk none0 ?_
  refine walk none0 ?_
  rfl
end Go.Abs

/- Chapter 02: lists cloned, sorted and compacted, walked. -/
namespace Go.Abs
open Go.Proofs
set_option maxRecDepth 100000
set_option linter.unusedVariables false
set_option linter.unusedSimpArgs false

theorem few17_ok {H : Heap} {v : AV} {l : List Int} (h : Is H v l) : Cl Tryd.prog pr02 17 [v] H fun w H' => FreshG H H' 3 1 w (l.take 200).length (ints (l.take 200)) := by
  obtain ⟨va, cap, ex, rfl, hc, hex⟩ := h.form
  refine Cl.enter Tryd.func17 rfl rfl Tryd.ntmps17 (by simp) ?_
  by_cases h1 : 200 < l.length
  · have hl2 : (l.take 200).length = 200 := by simp; omega
    obtain ⟨b, o, rfl⟩ : ∃ b o, va = some (b, o) := by
      obtain ⟨b, o, c, t, w, m, e, _⟩ := Sl.at h (by omega)
      exact ⟨b, o, e⟩
    have hcap : (200 : Int) ≤ cap := by omega
    have hcapN : 200 ≤ cap := by omega
    have hct := h.cut (n := 200) (by omega) hc hex
    generalize l.take 200 = L at *
    rw [hl2]
    have hct2 : Sl H 1 (.slice (some (b, o)) 200 cap ex) 200 (ints L) := by have := hct; unfold Is at this; rw [hl2] at this; exact this
    refine walk (both h1 (both hcap (both hcapN hex))) ?_
    refine Oq.appendG (own := (.empty _)) (new := ints L) (m := 200) (by simp (disch := omega) [-getElem?_pos, wrapI64, tdivN, tmodN, ipos, ineg, dpos, dneg, slc_l, slc_h, slc_lh, slc_hm, slc_lhm, slc_0, slcR_some, slcR_none, cutS_ok, cutA_ok, byteAt_ok]; first | done | (repeat' (first | rfl | apply And.intro))) ⟨_, rfl, by simp; first | done | (repeat' (first | rfl | apply And.intro))⟩ rfl (by kernel_rfl) (by kernel_rfl) ((Sl.push hct2 _).src') (by simp [hl2]) (ints_one L) (by omega) (by omega) fun w1 H1 o1 b1 s1 => ?_
    rw [Nat.zero_add, List.nil_append] at o1
    have f1 : FreshG H H1 3 1 w1 200 (ints L) := (FreshG.made (H0 := H) (cs := []) (n := 0) (elem := 3) (s := 1) (Upd.rfl.push _) (by simp) (b := H.next) (by omega) (by simp) (by simp)).app o1 b1 s1
    refine walk none0 ?_
    exact f1
  · rw [List.take_of_length_le (by omega)]
    refine walk h1 ?_
    refine Oq.appendG (own := (.empty _)) (new := ints l) (m := l.length) (by simp (disch := omega) [-getElem?_pos, wrapI64, tdivN, tmodN, ipos, ineg, dpos, dneg, slc_l, slc_h, slc_lh, slc_hm, slc_lhm, slc_0, slcR_some, slcR_none, cutS_ok, cutA_ok, byteAt_ok]; first | done | (repeat' (first | rfl | apply And.intro))) ⟨_, rfl, by simp; first | done | (repeat' (first | rfl | apply And.intro))⟩ rfl (by kernel_rfl) (by kernel_rfl) ((Sl.push h _).src') (by simp) (ints_one l) (by omega) (by omega) fun w1 H1 o1 b1 s1 => ?_
    rw [Nat.zero_add, List.nil_append] at o1
    have f1 : FreshG H H1 3 1 w1 l.length (ints l) := (FreshG.made (H0 := H) (cs := []) (n := 0) (elem := 3) (s := 1) (Upd.rfl.push _) (by simp) (b := H.next) (by omega) (by simp) (by simp)).app o1 b1 s1
    refine walk none0 ?_
    exact f1
theorem clone46_ok {H : Heap} {v : AV} {l : List Int} (h : Is H v l) (hL : l.length ≤ 100000) : Cl Tryd.prog pr02 46 [v] H fun w H' => FreshG H H' 3 1 w l.length (ints l) := by
  obtain ⟨va, cap, ex, rfl, hc, hex⟩ := h.form
  refine Cl.enter Tryd.func46 rfl rfl Tryd.ntmps46 (by simp) ?_
  cases va with
  | none =>
    have hl0 : l = [] := by
      unfold Is Sl at h
      rcases h.2 with ⟨e, hn⟩ | ⟨b, o, c, x, e, _⟩
      · exact List.eq_nil_of_length_eq_zero hn
      · cases e
    subst hl0
    refine walk none0 ?_
    exact FreshG.nil Upd.rfl
  | some p =>
    obtain ⟨b, o⟩ := p
    refine walk none0 ?_
    refine Oq.appendG (own := (.empty _)) (new := ints l) (m := l.length) (by simp (disch := omega) [-getElem?_pos, wrapI64, tdivN, tmodN, ipos, ineg, dpos, dneg, slc_l, slc_h, slc_lh, slc_hm, slc_lhm, slc_0, slcR_some, slcR_none, cutS_ok, cutA_ok, byteAt_ok]; first | done | (repeat' (first | rfl | apply And.intro))) ⟨_, rfl, by simp; first | done | (repeat' (first | rfl | apply And.intro))⟩ rfl (by kernel_rfl) (by kernel_rfl) ((Sl.push h _).src') (by simp) (ints_one l) (by omega) (by omega) fun w1 H1 o1 b1 s1 => ?_
    rw [Nat.zero_add, List.nil_append] at o1
    have f1 : FreshG H H1 3 1 w1 l.length (ints l) := (FreshG.made (H0 := H) (cs := []) (n := 0) (elem := 3) (s := 1) (Upd.rfl.push _) (by simp) (b := H.next) (by omega) (by simp) (by simp)).app o1 b1 s1
    refine walk none0 ?_
    exact f1
theorem sort47_ok {H0 H : Heap} {v : AV} {l : List Int} (f : FreshG H0 H 3 1 v l.length (ints l)) (hL : l.length ≤ 100000) : Cl Tryd.prog pr02 47 [v] H fun r H' => r = .tuple [] ∧ FreshG H0 H' 3 1 v l.length (ints (sortL l)) := by
  rcases f.own with ⟨a, rfl, hn, _⟩ | ⟨b, o, c, cap, sl, rfl, h0, h1, h2, h3, h4, h5⟩
  · have hl0 : l = [] := List.eq_nil_of_length_eq_zero hn
    subst hl0
    refine Cl.prim (g := sortP) rfl (v := .tuple []) (H' := H) rfl ⟨rfl, ?_⟩
    have : sortL [] = [] := by simp [sortL]
    rw [this]
    exact f
  · have hnew := f.new b rfl
    by_cases hn : l.length = 0
    · have hl0 : l = [] := List.eq_nil_of_length_eq_zero hn
      subst hl0
      refine Cl.prim (g := sortP) rfl (v := .tuple []) (H' := H) rfl ⟨rfl, ?_⟩
      have : sortL [] = [] := by simp [sortL]
      rw [this]
      exact f
    · rw [Nat.mul_one] at h4 h5
      refine Cl.prim (g := sortP) rfl (v := .tuple []) (H' := H.set b (.cells (c.take o ++ ints (sortL l) ++ c.drop (o + l.length)) 3 true false)) ?_ ⟨rfl, ?_⟩
      · unfold sortP
        simp only [h3, h5, unint_map]
        rw [if_neg hn, if_pos ⟨by omega, h0, hL⟩]
      · have hsl : (ints (sortL l)).length = l.length := by rw [ints_len, sortL_len]
        have hT : (c.take o).length = o := List.length_take_of_le (by omega)
        refine ⟨.inr ⟨b, o, _, cap, sl, rfl, h0, h1, by simpa using h2, Heap.get_set_same _ _ _, ?_, ?_⟩, f.keep.set _ h2 (by omega), f.new⟩
        · rw [List.length_append, List.length_append, hT, hsl, List.length_drop]; omega
        · rw [List.append_assoc, List.drop_append_of_le_length (by omega), List.drop_eq_nil_of_le (by omega), List.nil_append, List.take_append_of_le_length (by omega), List.take_of_length_le (by omega)]
end Go.Abs

/- Chapter 02: slices.Compact, walked. -/
namespace Go.Abs
open Go.Proofs
set_option maxRecDepth 100000
set_option linter.unusedVariables false
set_option linter.unusedSimpArgs false

/-- The first numbers, each but where it stands behind itself. -/
def cmpF (l : List Int) : Nat → List Int
  | 0 => []
  | j + 1 => match l[j]? with
    | none => cmpF l j
    | some x => if 0 < j ∧ l[j - 1]? = some x then cmpF l j else cmpF l j ++ [x]
theorem cmpF_dup {l : List Int} {j : Nat} {x : Int} (h : l[j]? = some x) (h0 : 0 < j) (h1 : l[j - 1]? = some x) : cmpF l (j + 1) = cmpF l j := by
  simp only [cmpF, h]; rw [if_pos ⟨h0, h1⟩]
theorem cmpF_new {l : List Int} {j : Nat} {x : Int} (h : l[j]? = some x) (h1 : ¬ (0 < j ∧ l[j - 1]? = some x)) : cmpF l (j + 1) = cmpF l j ++ [x] := by
  simp only [cmpF, h]; rw [if_neg h1]
theorem take_snoc {l : List Int} {j : Nat} {x : Int} (h : l[j]? = some x) : l.take (j + 1) = l.take j ++ [x] := by
  rw [List.take_add_one, h]; rfl
theorem compact48_ok {H : Heap} {v : AV} {l : List Int} (h : OwnG H 3 1 v l.length (ints l)) (hL : l.length ≤ 100000) :
    Cl Tryd.prog pr02 48 [v] H fun w H' => Is H' w (cmpF l l.length) ∧ Upd (fun z => slBlock v = some z) H H' ∧ (slBlock w = slBlock v) := by
  obtain ⟨a, cap, ex, rfl, hc, hex⟩ := h.form
  refine Cl.enter Tryd.func48 rfl rfl Tryd.ntmps48 (by simp) ?_
  by_cases h2 : l.length < 2
  · have h2I : (l.length : Int) < 2 := by omega
    have e : cmpF l l.length = l := by
      rcases (by omega : l.length = 0 ∨ l.length = 1) with h' | h'
      · have : l = [] := List.eq_nil_of_length_eq_zero h'
        subst this; rfl
      · rw [h']
        obtain ⟨x, hx⟩ := geti_lt (l := l) (i := 0) (by omega)
        rw [cmpF_new hx (by omega)]
        cases l with
        | nil => simp at h'
        | cons y r =>
          have : r = [] := List.eq_nil_of_length_eq_zero (by simpa using h')
          subst this
          simp at hx; subst hx; rfl
    rw [e]
    refine walk h2I ?_
    exact ⟨h.sl, Upd.rfl, rfl⟩
  · have h2I : ¬ (l.length : Int) < 2 := by omega
    obtain ⟨b, o, c, rfl, h0, h1, hb, h3, h4, h5, h6⟩ := h.at (by omega)
    have hIs : Is H (.slice (some (b, o)) l.length cap ex) l := h.sl
    have hcs : (c.drop o).take l.length = ints l := by simpa using h6
    have hbig : o + l.length ≤ c.length := by omega
    refine walk h2I ?_
    refine Wq.loop (fun k e H' => ∃ (i : Nat), 1 ≤ i ∧ i ≤ l.length ∧ k = l.length - i ∧ e 0 = .slice (some (b, o)) l.length cap ex ∧ e 3 = .int .i64 i ∧ H' = H ∧ cmpF l i = l.take i) (l.length - 1) ?_ ?_
    · refine ⟨1, by omega, by omega, by omega, by simp, by simp, rfl, ?_⟩
      obtain ⟨x, hx⟩ := geti_lt (l := l) (i := 0) (by omega)
      rw [cmpF_new hx (by omega), take_snoc hx]
      rfl
    · rintro k e H' ⟨i, hi1, hi, rfl, g0, g3, rfl, hcf⟩
      by_cases hlt : i < l.length
      · obtain ⟨x, hx⟩ := geti_lt hlt
        obtain ⟨y, hy⟩ := geti_lt (l := l) (i := i - 1) (by omega)
        have cx : c[o + i]? = some (.int .i64 x) := by rw [sub_get hcs (by omega)]; simp [ints, hx]
        have cy : c[o + (i - 1)]? = some (.int .i64 y) := by rw [sub_get hcs (by omega)]; simp [ints, hy]
        have lx : o + i < c.length := by omega
        have ly : o + (i - 1) < c.length := by omega
        have hiI : 1 ≤ (i : Int) := by omega
        by_cases hxy : x = y
        · subst hxy
          refine walk (both g0 (both g3 hlt)) ?_
          refine Wq.regionD [0, 1, 2, 3, 4, 5, 6, 7, 8, 9] (by kernel_rfl) ?_
          refine walk (both g0 (both g3 (both hlt (both h3 (both cx (both cy (both lx (both ly hiI)))))))) ?_
          refine Wq.loop (fun k e H2 => ∃ (t q : Nat) (c' : List AV) (m : List Int), 1 ≤ q ∧ i + q ≤ l.length ∧ k = l.length - (i + q) ∧ i ≤ t ∧ t < i + q ∧ e 0 = .slice (some (b, o)) l.length cap ex ∧ e 3 = .int .i64 t ∧ e 4 = .slice (some (b, o + i)) (l.length - i) (cap - i) ex ∧ e 5 = .int .i64 q ∧
            H2.get b = some (.cells c' 3 true false) ∧ c'.length = c.length ∧ (c'.drop o).take l.length = ints m ∧ m.length = l.length ∧ m.take t = cmpF l (i + q) ∧ m.drop (i + q - 1) = l.drop (i + q - 1) ∧ Upd (fun z => z = b) H' H2) (l.length - (i + 1)) ?_ ?_
          · exact ⟨i, 1, c, l, by omega, by omega, by omega, by omega, by omega, by simp [g0], by simp [g3], by simp, by simp, h3, rfl, hcs, rfl, by rw [cmpF_dup hx (by omega) hy, hcf], rfl, Upd.rfl⟩
          · rintro k e' H2 ⟨t, q, c', m, hq1, hq, rfl, hit, htq, q0, q3, q4, q5, hg, hcl, hcm, hml, hmt, hmd, hU⟩
            have hUn := hU.next
            by_cases hlt2 : i + q < l.length
            · obtain ⟨u, hu⟩ := geti_lt hlt2
              obtain ⟨w, hw⟩ := geti_lt (l := l) (i := i + q - 1) (by omega)
              have hum : m[i + q]? = some u := by
                have : (m.drop (i + q - 1))[1]? = (l.drop (i + q - 1))[1]? := by rw [hmd]
                simpa [show i + q - 1 + 1 = i + q by omega, hu] using this
              have hwm : m[i + q - 1]? = some w := by
                have : (m.drop (i + q - 1))[0]? = (l.drop (i + q - 1))[0]? := by rw [hmd]
                simpa [hw] using this
              have cu : c'[o + i + q]? = some (.int .i64 u) := by rw [Nat.add_assoc, sub_get hcm (by omega)]; simp [ints, hum]
              have cw : c'[o + i + (q - 1)]? = some (.int .i64 w) := by rw [show o + i + (q - 1) = o + (i + q - 1) by omega, sub_get hcm (by omega)]; simp [ints, hwm]
              have lu : o + i + q < c'.length := by omega
              have lw : o + i + (q - 1) < c'.length := by omega
              have hqI : 1 ≤ (q : Int) := by omega
              have hqn : q < l.length - i := by omega
              have hqnI : (q : Int) < ((l.length - i : Nat) : Int) := by omega
              by_cases huw : u = w
              · subst huw
                refine walk (both q0 (both q3 (both q4 (both q5 hqnI)))) ?_
                refine Wq.regionD [0, 1, 2, 3, 4, 5, 6, 7, 8, 9] (by kernel_rfl) ?_
                refine walk (both q0 (both q3 (both q4 (both q5 (both hg (both cu (both cw (both lu (both lw (both hqI hqn)))))))))) ?_
                refine Roundq.normal (l.length - (i + (q + 1))) (by omega) ⟨t, q + 1, c', m, by omega, by omega, rfl, hit, by omega, by simp [q0], by simp [q3], by simp [q4], by simp, hg, hcl, hcm, hml, ?_, ?_, hU⟩
                · rw [← Nat.add_assoc, cmpF_dup hu (by omega) hw]; exact hmt
                · rw [show i + (q + 1) - 1 = (i + q - 1) + 1 by omega, ← List.drop_drop, ← List.drop_drop, hmd]
              · have htl : t < l.length := by omega
                have lt' : o + t < c'.length := by omega
                refine walk (both q0 (both q3 (both q4 (both q5 hqnI)))) ?_
                refine Wq.regionD [0, 1, 2, 3, 4, 5, 6, 7, 8, 9] (by kernel_rfl) ?_
                refine walk (both q0 (both q3 (both q4 (both q5 (both hg (both cu (both cw (both lu (both lw (both hqI (both hqn (both huw (both htl lt'))))))))))))) ?_
                refine Roundq.normal (l.length - (i + (q + 1))) (by omega) ⟨t + 1, q + 1, c'.set (o + t) (.int .i64 u), m.set t u, by omega, by omega, rfl, by omega, by omega, by simp [q0], by simp, by simp [q4], by simp, Heap.get_set_same _ _ _, by simp [hcl], ?_, by simp [hml], ?_, ?_, hU.set _ (by omega) (fun _ => rfl)⟩
                · rw [set_sub hcm htl]; simp [ints, List.map_set]
                · rw [List.take_add_one, List.getElem?_set_self (by omega), List.take_set_of_le (Nat.le_refl _), hmt, ← Nat.add_assoc, cmpF_new hu (fun hh => huw (by have := hh.2; rw [hw] at this; injection this with this; exact this.symm))]; rfl
                · rw [List.drop_set_of_lt (by omega), show i + (q + 1) - 1 = (i + q - 1) + 1 by omega, ← List.drop_drop, ← List.drop_drop, hmd]
            · have hjl : i + q = l.length := by omega
              have htl : t < l.length := by omega
              have hqnI : ¬ (q : Int) < ((l.length - i : Nat) : Int) := by omega
              refine walk (both q0 (both q3 (both q4 (both q5 (both hqnI htl))))) ?_
              refine Oq.clearG (b := b) (o := o + t) (k := l.length - t) (s := 1) (cd := c') (by simp; first | done | (repeat' (first | rfl | apply And.intro))) ⟨_, rfl, by simp; first | done | (repeat' (first | rfl | apply And.intro))⟩ (by omega) (by omega) hg (by omega) rfl ?_
              have hmi : cmpF l l.length = m.take t := by rw [hmt, hjl]
              have hmil : (m.take t).length = t := List.length_take_of_le (by omega)
              refine walk (both q0 (both q3 (both q4 (both q5 htl)))) ?_
              have hT : (c'.take (o + t)).length = o + t := List.length_take_of_le (by omega)
              have key : ∀ X : List AV, ((c'.take (o + t) ++ X).drop o).take t = ints (m.take t) := by
                intro X
                rw [List.drop_append_of_le_length (by omega), List.take_append_of_le_length (by rw [List.length_drop]; omega), ← ints_take, ← hcm, List.take_take, List.drop_take, List.take_take, Nat.min_eq_left (by omega)]
                congr 1
                omega
              rw [hmi]
              refine ⟨?_, (hU.set _ (by omega) (fun _ => rfl)).mono (fun z _ e => by simp [slBlock, e]), rfl⟩
              unfold Is Sl
              refine ⟨by simp, .inr ⟨b, o, cap, ex, by rw [hmil], by omega, h1, fun _ => ⟨by simp; omega, _, _, _, _, Heap.get_set_same _ _ _, ?_, ?_⟩⟩⟩
              · rw [List.length_append, hT]; omega
              · rw [hmil, Nat.mul_one]; exact key _
        · refine walk (both g0 (both g3 hlt)) ?_
          refine Wq.regionD [0, 1, 2, 3, 4, 5, 6, 7, 8, 9] (by kernel_rfl) ?_
          refine walk (both g0 (both g3 (both hlt (both h3 (both cx (both cy (both lx (both ly (both hiI hxy))))))))) ?_
          refine Roundq.normal (l.length - (i + 1)) (by omega) ⟨i + 1, by omega, by omega, rfl, by simp [g0], by simp, rfl, ?_⟩
          rw [cmpF_new hx (fun h => hxy (by have := h.2; rw [hy] at this; injection this with this; exact this.symm)), hcf, take_snoc hx]
      · obtain rfl : i = l.length := by omega
        rw [hcf, List.take_length]
        refine walk (both g0 g3) ?_
        exact ⟨hIs, Upd.rfl, rfl⟩
end Go.Abs

/- Chapter 02: subsets, walked. -/
namespace Go.Abs
open Go.Proofs
set_option maxRecDepth 100000
set_option linter.unusedVariables false
set_option linter.unusedSimpArgs false

theorem nums32_ok {H : Heap} {v w : AV} {l m : List Int} (h : Is H v l) (h' : Is H w m) (hL : l.length ≤ 100000) : Cl Tryd.prog pr02 32 [v, w] H fun r H' => r = .bool (decide (l = m)) ∧ H' = H := by
  obtain ⟨va, vc, vx, rfl, hvc, hvx⟩ := h.form
  obtain ⟨wa, wc, wx, rfl, hwc, hwx⟩ := h'.form
  refine Cl.enter Tryd.func32 rfl rfl Tryd.ntmps32 (by simp) ?_
  by_cases hlen : l.length = m.length
  · have hlenI : (l.length : Int) = m.length := by omega
    refine walk hlenI ?_
    refine Wq.loop (fun k e H' => ∃ i : Nat, i ≤ l.length ∧ k = l.length - i ∧ H' = H ∧ e 0 = .slice va l.length vc vx ∧ e 1 = .slice wa m.length wc wx ∧ e 5 = .int .i64 i ∧ ∀ j < i, l[j]? = m[j]?) l.length ?_ ?_
    · exact ⟨0, by omega, by omega, rfl, by simp, by simp, by simp, fun j hj => by omega⟩
    · rintro k e H' ⟨i, hi, rfl, rfl, g0, g1, g5, hlo⟩
      by_cases hlt : i < l.length
      · have hlt' : i < m.length := by omega
        obtain ⟨x, hx⟩ := geti_lt hlt
        obtain ⟨y, hy⟩ := geti_lt hlt'
        obtain ⟨b, o, cc, t, w, mk, rfl, _, hb1, hb2, hb3, hb4⟩ := int_at h hx
        obtain ⟨b', o', cc', t', w', mk', rfl, _, hb1', hb2', hb3', hb4'⟩ := int_at h' hy
        by_cases hxy : x = y
        · subst hxy
          refine walk (both g0 (both g1 (both g5 hlt))) ?_
          refine Wq.regionD [0, 1, 2, 3, 4, 5, 6, 7, 8] (by kernel_rfl) ?_
          refine walk (both g0 (both g1 (both g5 (both hlt (both hlt' (both hb2 (both hb3 (both hb4 (both hb2' (both hb3' hb4')))))))))) ?_
          exact Roundq.normal (l.length - (i + 1)) (by omega) ⟨i + 1, by omega, rfl, rfl, by simp [g0], by simp [g1], by simp, lt_step hlo (by rw [hx, hy])⟩
        · have hne : l ≠ m := by rintro rfl; rw [hx] at hy; injection hy with hy; exact hxy hy
          refine walk (both g0 (both g1 (both g5 hlt))) ?_
          refine Wq.regionD [0, 1, 2, 3, 4, 5, 6, 7, 8] (by kernel_rfl) ?_
          refine walk (both g0 (both g1 (both g5 (both hlt (both hlt' (both hb2 (both hb3 (both hb4 (both hb2' (both hb3' (both hb4' hxy))))))))))) ?_
          exact ⟨by rw [decide_eq_false hne], rfl⟩
      · obtain rfl : i = l.length := by omega
        have heq : l = m := by
          apply List.ext_getElem? 
          intro j
          rcases Nat.lt_or_ge j l.length with h1 | h1
          · exact hlo j h1
          · rw [List.getElem?_eq_none h1, List.getElem?_eq_none (by omega)]
        refine walk (both g0 (both g1 g5)) ?_
        exact ⟨by rw [decide_eq_true heq], rfl⟩
  · have hlenI : ¬ (l.length : Int) = m.length := by omega
    have hne : l ≠ m := by rintro rfl; exact hlen rfl
    refine walk hlenI ?_
    exact ⟨by rw [decide_eq_false hne], rfl⟩
theorem same16_ok {H : Heap} {a b : Bool} {v w : AV} {l m : List Int} (h : Is H v l) (h' : Is H w m) (hL : l.length ≤ 100000) : Cl Tryd.prog pr02 16 [.agg [.bool a, v], .agg [.bool b, w]] H fun r H' => r = .bool (decide (a = b ∧ l = m)) ∧ Keep H H' := by
  obtain ⟨va, vc, vx, rfl, hvc, hvx⟩ := h.form
  obtain ⟨wa, wc, wx, rfl, hwc, hwx⟩ := h'.form
  have kB : Keep H ((H.push (.cells [.bool a, .slice va l.length vc vx] 24 true false)).push (.cells [.bool b, .slice wa m.length wc wx] 24 true false)) := (Upd.rfl.push _).push _
  refine Cl.enter Tryd.func16 rfl rfl Tryd.ntmps16 (by simp) ?_
  by_cases hab : a = b
  · subst hab
    refine walk none0 ?_
    refine (nums32_ok (h.kept kB) (h'.kept kB) hL).mono fun r H1 _ ⟨ea, eb⟩ => ?_
    subst ea; subst eb
    refine walk none0 ?_
    exact ⟨by simp, kB⟩
  · refine walk hab ?_
    exact ⟨by simp [hab], kB⟩
theorem clo50_ok {H : Heap} {p : Nat} {a : Bool} {va : Option (Nat × Nat)} {vc : Nat} {vx : Option Nat} {l : List Int} (hg : H.get p = some (.cells [.bool a, .slice va l.length vc vx] 24 true false)) (h : Is H (.slice va l.length vc vx) l) (hL : l.length ≤ 100000) (n : Int) :
    Cl Tryd.prog pr02 50 [.int .i64 n, .ptr (some (p, 0))] H fun r H' => Keep H H' ∧ r = .bool (!(hasP a l n)) := by
  refine Cl.enter Tryd.func50 rfl rfl Tryd.ntmps50 (by simp) ?_
  refine walk hg ?_
  refine (has30_ok h hL n).mono fun r H1 _ ⟨kA, ea⟩ => ?_
  subst ea
  refine walk none0 ?_
  exact ⟨kA, rfl⟩
theorem any58_ok {H : Heap} {p : Nat} {a : Bool} {va : Option (Nat × Nat)} {vc : Nat} {vx : Option Nat} {l m : List Int} (hg : H.get p = some (.cells [.bool a, .slice va l.length vc vx] 24 true false)) (hp : p < H.next) (h : Is H (.slice va l.length vc vx) l) (hL : l.length ≤ 100000)
    {w : AV} (hw : Is H w m) (hM : m.length ≤ 100000) : Cl Tryd.prog pr02 58 [w, .func (.func 50) [] [.ptr (some (p, 0))]] H fun r H' => Keep H H' ∧ ∃ z : Int, r = .int .i64 z ∧ (0 ≤ z ↔ ∃ x ∈ m, hasP a l x = false) := by
  obtain ⟨wa, wc, wx, rfl, hwc, hwx⟩ := hw.form
  refine Cl.enter Tryd.func58 rfl rfl Tryd.ntmps58 (by simp) ?_
  refine walk none0 ?_
  refine Wq.loop (fun k e H' => ∃ i : Nat, i ≤ m.length ∧ k = m.length - i ∧ Keep H H' ∧ e 0 = .slice wa m.length wc wx ∧ e 1 = .func (.func 50) [] [.ptr (some (p, 0))] ∧ e 7 = .int .i64 m.length ∧ e 8 = .int .i64 i ∧ ∀ j < i, ∀ x, m[j]? = some x → hasP a l x = true) m.length ?_ ?_
  · exact ⟨0, by omega, by omega, Upd.rfl, by simp, by simp, by simp, by simp, fun j hj => by omega⟩
  · rintro k e H' ⟨i, hi, rfl, kA, g0, g1, g7, g8, hlo⟩
    by_cases hlt : i < m.length
    · obtain ⟨x, hx⟩ := geti_lt hlt
      obtain ⟨b, o, cc, t, w, mk, rfl, _, hb1, hb2, hb3, hb4⟩ := int_at (hw.kept kA) hx
      refine walk (both g0 (both g1 (both g7 (both g8 (both hlt (both hb2 (both hb3 hb4))))))) ?_
      refine (clo50_ok ((kA.get hp).trans hg) (h.kept kA) hL x).mono fun r H1 _ ⟨kB, ea⟩ => ?_
      subst ea
      cases hh : hasP a l x with
      | false =>
        refine walk g8 ?_
        exact ⟨kA.then kB, _, rfl, ⟨fun _ => ⟨x, List.mem_of_getElem? hx, hh⟩, fun _ => by omega⟩⟩
      | true =>
        refine walk g8 ?_
        exact Roundq.normal (m.length - (i + 1)) (by omega) ⟨i + 1, by omega, rfl, kA.then kB, by simp [g0], by simp [g1], by simp [g7], by simp, lt_step hlo (fun y hy => by rw [hx] at hy; injection hy with hy; subst hy; exact hh)⟩
    · obtain rfl : i = m.length := by omega
      refine walk (both g0 (both g1 (both g7 g8))) ?_
      refine ⟨kA, _, rfl, ⟨fun h => by omega, fun ⟨x, hx, hh⟩ => ?_⟩⟩
      obtain ⟨j, hj⟩ := List.mem_iff_getElem?.1 hx
      rw [hlo j (List.getElem?_eq_some_iff.1 hj).1 x hj] at hh
      cases hh
open Classical in
noncomputable def subP (a : Bool) (l : List Int) (b : Bool) (m : List Int) : Bool := canP a l && canP b m && !(a && !b) && decide (∀ x ∈ l, hasP b m x = true)
theorem subP_any {a b : Bool} {l m : List Int} (h1 : canP a l = true) (h2 : canP b m = true) (h3 : (a || b) = true) : subP a l b m = b := by
  unfold subP
  rw [h1, h2]
  cases b with
  | true =>
    have : ∀ x ∈ l, hasP true m x = true := by
      intro x hx
      unfold hasP
      rw [h2]
      have h0 : 0 ≤ x := by
        obtain ⟨j, hj⟩ := List.mem_iff_getElem?.1 hx
        exact ((canP_ok h1).1 j (List.getElem?_eq_some_iff.1 hj).1 x hj).1
      simp [h0]
    rw [decide_eq_true this]
    simp
  | false =>
    have ha : a = true := by simpa using h3
    subst ha
    simp
theorem subset40_ok {H : Heap} {a b : Bool} {v w : AV} {l m : List Int} (h : Is H v l) (h' : Is H w m) (hL : l.length ≤ 100000) (hM : m.length ≤ 100000) : Cl Tryd.prog pr02 40 [.agg [.bool a, v], .agg [.bool b, w]] H fun r H' => Keep H H' ∧ r = .bool (subP a l b m) := by
  obtain ⟨va, vc, vx, rfl, hvc, hvx⟩ := h.form
  obtain ⟨wa, wc, wx, rfl, hwc, hwx⟩ := h'.form
  have kB : Keep H ((H.push (.cells [.bool a, .slice va l.length vc vx] 24 true false)).push (.cells [.bool b, .slice wa m.length wc wx] 24 true false)) := (Upd.rfl.push _).push _
  have gA : ((H.push (.cells [.bool a, .slice va l.length vc vx] 24 true false)).push (.cells [.bool b, .slice wa m.length wc wx] 24 true false)).get H.next = some (.cells [.bool a, .slice va l.length vc vx] 24 true false) := by simp (disch := omega) [ineg]
  have gB : ((H.push (.cells [.bool a, .slice va l.length vc vx] 24 true false)).push (.cells [.bool b, .slice wa m.length wc wx] 24 true false)).get (H.next + 1) = some (.cells [.bool b, .slice wa m.length wc wx] 24 true false) := by simp (disch := omega) [ineg]
  have nB : H.next + 1 < ((H.push (.cells [.bool a, .slice va l.length vc vx] 24 true false)).push (.cells [.bool b, .slice wa m.length wc wx] 24 true false)).next := by simp
  refine Cl.enter Tryd.func40 rfl rfl Tryd.ntmps40 (by simp) ?_
  refine walk none0 ?_
  generalize (H.push (.cells [.bool a, .slice va l.length vc vx] 24 true false)).push (.cells [.bool b, .slice wa m.length wc wx] 24 true false) = H1 at *
  refine (can34_ok (h.kept kB) hL).mono fun r H2 _ ⟨kA, ea⟩ => ?_
  subst ea
  have gA2 := (kA.get (by omega)).trans gA
  have gB2 := (kA.get nB).trans gB
  have n2 : H.next + 1 < H2.next := Nat.lt_of_lt_of_le nB kA.next
  cases hca : canP a l with
  | false =>
    have e : subP a l b m = false := by unfold subP; rw [hca]; rfl
    rw [e]
    refine walk none0 ?_
    exact ⟨kB.then kA, rfl⟩
  | true =>
    refine walk gB2 ?_
    refine (can34_ok (h'.kept (kB.then kA)) hM).mono fun r H3 _ ⟨kC, ea⟩ => ?_
    subst ea
    have gA3 := (kC.get (by omega)).trans gA2
    have gB3 := (kC.get n2).trans gB2
    have n3 : H.next + 1 < H3.next := Nat.lt_of_lt_of_le n2 kC.next
    have k3 := (kB.then kA).then kC
    cases hcb : canP b m with
    | false =>
      have e : subP a l b m = false := by unfold subP; rw [hca, hcb]; rfl
      rw [e]
      refine walk none0 ?_
      exact ⟨k3, rfl⟩
    | true =>
      cases a with
      | true =>
        rw [subP_any hca hcb rfl]
        refine walk (both gA3 gB3) ?_
        exact ⟨k3, rfl⟩
      | false =>
        cases b with
        | true =>
          rw [subP_any hca hcb rfl]
          refine walk (both gA3 gB3) ?_
          exact ⟨k3, rfl⟩
        | false =>
          refine walk (both gA3 gB3) ?_
          have h49 : Cl Tryd.prog pr02 49 [.slice va l.length vc vx, .func (.func 50) [] [.ptr (some (H.next + 1, 0))]] H3 fun r H' => Keep H3 H' ∧ ∃ z : Int, r = .bool (decide (0 ≤ z)) ∧ (0 ≤ z ↔ ∃ x ∈ l, hasP false m x = false) := by
            refine Cl.enter Tryd.func49 rfl rfl Tryd.ntmps49 (by simp) ?_
            refine walk none0 ?_
            refine (any58_ok gB3 n3 (h'.kept k3) hM (h.kept k3) hL).mono fun r H4 _ ⟨kD, z, ea, hz⟩ => ?_
            subst ea
            refine walk none0 ?_
            exact ⟨kD, z, rfl, hz⟩
          refine h49.mono fun r H4 _ ⟨kD, z, ea, hz⟩ => ?_
          subst ea
          have e : subP false l false m = !(decide (0 ≤ z)) := by
            unfold subP
            rw [hca, hcb]
            by_cases h0 : 0 ≤ z
            · obtain ⟨x, hx, hh⟩ := hz.1 h0
              have : ¬ ∀ x ∈ l, hasP false m x = true := fun hall => by rw [hall x hx] at hh; cases hh
              simp [this, h0]
            · have : ∀ x ∈ l, hasP false m x = true := fun x hx => by
                cases hh : hasP false m x with
                | true => rfl
                | false => exact absurd (hz.2 ⟨x, hx, hh⟩) h0
              rw [decide_eq_true this, decide_eq_false h0]
              rfl
          rw [e]
          refine walk none0 ?_
          exact ⟨k3.then kD, rfl⟩
end Go.Abs

/- Chapter 02: which lists are made, walked. -/
namespace Go.Abs
open Go.Proofs
set_option maxRecDepth 100000
set_option linter.unusedVariables false
set_option linter.unusedSimpArgs false

/-- The numbers of a list, each once, rising. -/
def Canon (l S : List Int) : Prop := S.Pairwise (· < ·) ∧ ∀ x, x ∈ S ↔ x ∈ l
theorem canon_eq : ∀ {S T : List Int}, S.Pairwise (· < ·) → T.Pairwise (· < ·) → (∀ x, x ∈ S ↔ x ∈ T) → S = T
  | [], [], _, _, _ => rfl
  | [], b :: T, _, _, h => by have := (h b).2 (by simp); cases this
  | a :: S, [], _, _, h => by have := (h a).1 (by simp); cases this
  | a :: S, b :: T, hS, hT, h => by
    obtain ⟨hS1, hS2⟩ := List.pairwise_cons.1 hS
    obtain ⟨hT1, hT2⟩ := List.pairwise_cons.1 hT
    have e : a = b := by
      rcases List.mem_cons.1 ((h a).1 (by simp)) with h1 | h1
      · exact h1
      · have := hT1 a h1
        rcases List.mem_cons.1 ((h b).2 (by simp)) with h2 | h2
        · exact h2.symm
        · have := hS1 b h2; omega
    subst e
    rw [canon_eq hS2 hT2 fun x => ?_]
    constructor
    · intro hx
      rcases List.mem_cons.1 ((h x).1 (List.mem_cons_of_mem _ hx)) with h1 | h1
      · subst h1; have := hS1 x hx; omega
      · exact h1
    · intro hx
      rcases List.mem_cons.1 ((h x).2 (List.mem_cons_of_mem _ hx)) with h1 | h1
      · subst h1; have := hT1 x hx; omega
      · exact h1
theorem canon_le : ∀ {T S : List Int}, S.Pairwise (· < ·) → T.Pairwise (· < ·) → (∀ x ∈ S, x ∈ T) → S.length ≤ T.length
  | T, [], _, _, _ => by simp
  | [], a :: S, _, _, h => by have := h a (by simp); cases this
  | b :: T, a :: S, hS, hT, h => by
    obtain ⟨hS1, hS2⟩ := List.pairwise_cons.1 hS
    obtain ⟨hT1, hT2⟩ := List.pairwise_cons.1 hT
    by_cases e : a = b
    · subst e
      have := canon_le hS2 hT2 fun x hx => by
        rcases List.mem_cons.1 (h x (List.mem_cons_of_mem _ hx)) with h1 | h1
        · subst h1; have := hS1 x hx; omega
        · exact h1
      simp; omega
    · have haT : a ∈ T := by
        rcases List.mem_cons.1 (h a (by simp)) with h1 | h1
        · exact absurd h1 e
        · exact h1
      have hba := hT1 a haT
      have := canon_le (T := T) (S := a :: S) hS hT2 fun x hx => by
        rcases List.mem_cons.1 (h x hx) with h1 | h1
        · subst h1
          rcases List.mem_cons.1 hx with h2 | h2
          · exact absurd h2.symm e
          · have := hS1 x h2; omega
        · exact h1
      simp at this ⊢; omega
theorem cmpF_canon {L : List Int} (hs : L.Pairwise (· ≤ ·)) : ∀ j, j ≤ L.length → (cmpF L j).Pairwise (· < ·) ∧ ∀ x, x ∈ cmpF L j ↔ x ∈ L.take j
  | 0, _ => by simp [cmpF]
  | j + 1, hj => by
    obtain ⟨x, hx⟩ := geti_lt (l := L) (i := j) (by omega)
    obtain ⟨ih1, ih2⟩ := cmpF_canon hs j (by omega)
    have hle : ∀ (i k : Nat) (a b : Int), i < k → L[i]? = some a → L[k]? = some b → a ≤ b := by
      intro i k a b hik ha hb
      obtain ⟨h1, rfl⟩ := List.getElem?_eq_some_iff.1 ha
      obtain ⟨h2, rfl⟩ := List.getElem?_eq_some_iff.1 hb
      exact List.pairwise_iff_getElem.1 hs i k h1 h2 hik
    by_cases hd : 0 < j ∧ L[j - 1]? = some x
    · rw [cmpF_dup hx hd.1 hd.2]
      refine ⟨ih1, fun y => ?_⟩
      rw [ih2, take_snoc hx, List.mem_append, List.mem_singleton]
      constructor
      · exact .inl
      · rintro (h | rfl)
        · exact h
        · refine List.mem_iff_getElem?.2 ⟨j - 1, ?_⟩
          rw [List.getElem?_take_of_lt (by omega)]; exact hd.2
    · rw [cmpF_new hx hd]
      constructor
      · rw [List.pairwise_append]
        refine ⟨ih1, by simp, fun y hy z hz => ?_⟩
        simp at hz; subst hz
        obtain ⟨i, hi⟩ := List.mem_iff_getElem?.1 ((ih2 y).1 hy)
        have hij : i < j := by have := (List.getElem?_eq_some_iff.1 hi).1; simp at this; omega
        rw [List.getElem?_take_of_lt hij] at hi
        obtain ⟨w, hw⟩ := geti_lt (l := L) (i := j - 1) (by omega)
        have h1 := hle (j - 1) j w z (by omega) hw hx
        have h2 : y ≤ w := by
          rcases Nat.lt_or_ge i (j - 1) with h | h
          · exact hle i (j - 1) y w h hi hw
          · obtain rfl : i = j - 1 := by omega
            rw [hi] at hw; injection hw with hw; omega
        have h3 : w ≠ z := fun e => hd ⟨by omega, by rw [hw, e]⟩
        omega
      · intro y
        rw [take_snoc hx, List.mem_append, List.mem_append, ih2]
theorem sortL_sorted (l : List Int) : (sortL l).Pairwise (· ≤ ·) := by
  have := List.pairwise_mergeSort (le := fun x y : Int => decide (x ≤ y)) (by intro a b c h1 h2; simp at *; omega) (by intro a b; simp; omega) l
  exact this.imp (by intro a b h; simpa using h)
theorem canon_made (l : List Int) : Canon l (cmpF (sortL l) (sortL l).length) := by
  obtain ⟨h1, h2⟩ := cmpF_canon (sortL_sorted l) (sortL l).length (Nat.le_refl _)
  refine ⟨h1, fun x => ?_⟩
  rw [h2, List.take_length]
  exact List.mem_mergeSort
theorem okL_of {S : List Int} (h1 : S.Pairwise (· < ·)) (h2 : ∀ x ∈ S, 0 ≤ x) : okL S := by
  intro i hi c hc
  refine ⟨h2 c (List.mem_of_getElem? hc), fun h0 b hb => ?_⟩
  obtain ⟨g1, rfl⟩ := List.getElem?_eq_some_iff.1 hc
  obtain ⟨g2, rfl⟩ := List.getElem?_eq_some_iff.1 hb
  exact List.pairwise_iff_getElem.1 h1 (i - 1) i g2 g1 (by omega)
theorem okL_nonneg {S : List Int} (h : okL S) : ∀ x ∈ S, 0 ≤ x := fun x hx => by
  obtain ⟨i, hi⟩ := List.mem_iff_getElem?.1 hx
  exact (h i (List.getElem?_eq_some_iff.1 hi).1 x hi).1
/-- What comes of making a list. -/
def MR (l S : List Int) (e : Int) : Prop := (e = 22 ∧ S = [] ∧ ¬ ∃ T, Canon l T ∧ (∀ x ∈ T, 0 ≤ x) ∧ T.length ≤ 32) ∨ (e = 0 ∧ Canon l S ∧ (∀ x ∈ S, 0 ≤ x) ∧ S.length ≤ 32)
theorem MR_one {l S T : List Int} {e f : Int} (h : MR l S e) (g : MR l T f) : S = T ∧ e = f := by
  rcases h with ⟨rfl, rfl, h⟩ | ⟨rfl, h, h1, h2⟩ <;> rcases g with ⟨rfl, rfl, g⟩ | ⟨rfl, g, g1, g2⟩
  · exact ⟨rfl, rfl⟩
  · exact absurd ⟨T, g, g1, g2⟩ h
  · exact absurd ⟨S, h, h1, h2⟩ g
  · exact ⟨canon_eq h.1 g.1 (fun x => by rw [h.2, g.2]), rfl⟩
theorem MR_can {l S : List Int} {e : Int} (h : MR l S e) : canP false S = true := by
  unfold canP
  rcases h with ⟨rfl, rfl, h⟩ | ⟨rfl, h, h1, h2⟩
  · simp; intro i hi; simp at hi
  · simp; exact ⟨okL_of h.1 h1, h2⟩
theorem cmpF_len (l : List Int) : ∀ j, (cmpF l j).length ≤ j
  | 0 => by simp [cmpF]
  | j + 1 => by
    have := cmpF_len l j
    simp only [cmpF]
    split
    · omega
    · split
      · omega
      · simp; omega
theorem keep_new2 (H : Heap) (x y : AObj) : Keep H ((H.push x).set H.next y) := (Upd.rfl.push _).set _ (by simp) (by omega)
theorem made38_ok {H : Heap} {v : AV} {l : List Int} (h : Is H v l) (hL : l.length ≤ 100000) : Cl Tryd.prog pr02 38 [v] H fun r H' => Keep H H' ∧ ∃ S e w, r = .tuple [.agg [.bool false, w], .int .i64 e] ∧ Is H' w S ∧ MR l S e ∧ ∀ z, slBlock w = some z → H.next ≤ z := by
  have nil0 : ∀ H : Heap, Is H (.slice none 0 0 none) [] := fun H => Sl.nil
  have hcan := canon_made l
  refine Cl.enter Tryd.func38 rfl rfl Tryd.ntmps38 (by simp) ?_
  refine walk none0 ?_
  have k0 : Keep H (H.push (.cells [.bool false, .slice none 0 0 none] 24 true false)) := Upd.rfl.push _
  have gT : (H.push (.cells [.bool false, .slice none 0 0 none] 24 true false)).get H.next = some (.cells [.bool false, .slice none 0 0 none] 24 true false) := by simp
  have nT : H.next < (H.push (.cells [.bool false, .slice none 0 0 none] 24 true false)).next := by simp
  generalize H.push (.cells [.bool false, .slice none 0 0 none] 24 true false) = H1 at *
  refine (clone46_ok (h.kept k0) hL).mono fun w H2 _ f2 => ?_
  have gT2 := (f2.keep.get nT).trans gT
  obtain ⟨wa, wc, wx, rfl, hwc, hwx⟩ := f2.own.form
  refine walk none0 ?_
  refine (sort47_ok f2 hL).mono fun r H3 _ ⟨ea, f3⟩ => ?_
  subst ea
  have gT3 := (f3.keep.get nT).trans gT
  have n3 : H.next < H3.next := Nat.lt_of_lt_of_le nT f3.keep.next
  refine walk none0 ?_
  have hsl := sortL_len l
  have hown : OwnG H3 3 1 (.slice wa l.length wc wx) (sortL l).length (ints (sortL l)) := by rw [hsl]; exact f3.own
  refine (compact48_ok hown (by omega)).mono fun u H4 _ ⟨iu, hU, hb⟩ => ?_
  have hnew := f3.new
  have gT4 : H4.get H.next = some (.cells [.bool false, .slice none 0 0 none] 24 true false) := (hU.keep H.next n3 (fun e => by have := hnew _ e; omega)).trans gT3
  have k4 : Keep H H4 := k0.then (f3.keep.trans hU (fun z hz e => by have := hnew z e; omega))
  have n4 : H.next < H4.next := Nat.lt_of_lt_of_le n3 hU.next
  have hDl := cmpF_len (sortL l) (sortL l).length
  generalize cmpF (sortL l) (sortL l).length = D at *
  obtain ⟨ua, uc, ux, rfl, huc, hux⟩ := iu.form
  refine walk none0 ?_
  have k5 := keep_new2 H4 (.cells [.bool false, .slice none 0 0 none] 24 true false) (.cells [.bool false, .slice ua D.length uc ux] 24 true false)
  have gA : ((H4.push (.cells [.bool false, .slice none 0 0 none] 24 true false)).set H4.next (.cells [.bool false, .slice ua D.length uc ux] 24 true false)).get H4.next = some (.cells [.bool false, .slice ua D.length uc ux] 24 true false) := Heap.get_set_same _ _ _
  have nA : H4.next < ((H4.push (.cells [.bool false, .slice none 0 0 none] 24 true false)).set H4.next (.cells [.bool false, .slice ua D.length uc ux] 24 true false)).next := by simp
  have gT5 := (k5.get n4).trans gT4
  have iu5 := iu.kept k5
  generalize (H4.push (.cells [.bool false, .slice none 0 0 none] 24 true false)).set H4.next (.cells [.bool false, .slice ua D.length uc ux] 24 true false) = H5 at *
  refine (can34_ok (a := false) iu5 (by omega)).mono fun r H6 _ ⟨kC, ea⟩ => ?_
  subst ea
  have gT6 := (kC.get (by have := k5.next; omega)).trans gT5
  have gA6 := (kC.get nA).trans gA
  have k6 := (k4.then k5).then kC
  have n6 : H.next < H6.next := by have := k5.next; have := kC.next; omega
  cases hcp : canP false D with
  | false =>
    refine walk gT6 ?_
    refine ⟨k6.set _ n6 (by omega), [], 22, _, rfl, nil0 _, .inl ⟨rfl, rfl, ?_⟩, by simp [slBlock]⟩
    rintro ⟨T, hT, hT1, hT2⟩
    have e : D = T := canon_eq hcan.1 hT.1 (fun x => by rw [hcan.2, hT.2])
    subst e
    have : canP false D = true := by unfold canP; simp; exact ⟨okL_of hT.1 hT1, hT2⟩
    rw [this] at hcp
    cases hcp
  | true =>
    have hD : okL D ∧ D.length ≤ 32 := by unfold canP at hcp; simpa using hcp
    refine walk (both gT6 gA6) ?_
    refine ⟨k6.set _ n6 (by omega), D, 0, _, rfl, Sl.set (iu5.kept kC) _ ?_, .inr ⟨rfl, hcan, okL_nonneg hD.1, hD.2⟩, fun z hz => by rw [hb] at hz; have := hnew z hz; omega⟩
    intro e
    rw [hb] at e
    have := hnew _ e
    omega
end Go.Abs

/- Chapter 02: the reference's Make, walked. -/
namespace Go.Abs
open Go.Proofs
set_option maxRecDepth 100000
set_option linter.unusedVariables false
set_option linter.unusedSimpArgs false

theorem cuts {H : Heap} {wa : Option (Nat × Nat)} {wc : Nat} {wx : Option Nat} {S : List Int} {k : Nat} (h : Is H (.slice wa S.length wc wx) S) (hk : k ≤ S.length) : ∃ P1 P2 : AV, (∀ H', sliceR Tryd.prog 22 (some (.slice wa S.length wc wx)) (some none) (some (some (.int .i64 k))) (some none) H' = some (P1, H')) ∧
    (∀ H', sliceR Tryd.prog 22 (some (.slice wa S.length wc wx)) (some (some (.int .i64 k))) (some none) (some none) H' = some (P2, H')) ∧ (∀ H', Is H' (.slice wa S.length wc wx) S → Is H' P1 (S.take k) ∧ Is H' P2 (S.drop k)) := by
  obtain ⟨a', c', x', e, hc, hx⟩ := h.form
  injection e with _ _ e3 e4
  subst e3; subst e4
  cases wa with
  | none =>
    have hl0 : S = [] ∧ wc = 0 := by
      unfold Is Sl at h
      rcases h.2 with ⟨e, hn⟩ | ⟨b, o, c, x, e, _⟩
      · injection e with _ e2 e3 _
        exact ⟨List.eq_nil_of_length_eq_zero hn, e3⟩
      · cases e
    obtain ⟨rfl, rfl⟩ := hl0
    obtain rfl : k = 0 := by simpa using hk
    refine ⟨.slice none 0 0 none, .slice none 0 0 none, fun H' => ?_, fun H' => ?_, fun H' _ => ⟨Sl.nil, Sl.nil⟩⟩
    · rw [slc_h (by simp), elemS22]; simp [slcR]
    · rw [slc_l (by simp), elemS22]; simp [slcR]
  | some p =>
    obtain ⟨b, o⟩ := p
    refine ⟨.slice (some (b, o)) k wc wx, .slice (some (b, o + k)) (S.length - k) (wc - k) wx, fun H' => ?_, fun H' => ?_, fun H' h' => ⟨h'.cut hk hc hx, ?_⟩⟩
    · rw [slc_h hc, elemS22]
      simp only [slcR]
      rw [if_pos (by omega), if_pos hx]
      simp
    · rw [slc_l hc, elemS22]
      simp only [slcR]
      rw [if_pos (by omega), if_pos hx]
      simp only [Bool.false_eq_true, if_false]
      rw [show o + (k : Int).toNat * 1 = o + k by omega, show ((S.length : Int) - k).toNat = S.length - k by omega, show ((wc : Int) - k).toNat = wc - k by omega]
    · have := Sl.sub h' (k := k) (m := S.length - k) (cap' := wc - k) (ex' := wx) (by omega) (by omega) hx
      rw [Nat.mul_one, Nat.mul_one] at this
      have e : ((ints S).drop k).take (S.length - k) = ints (S.drop k) := by
        rw [List.take_of_length_le (by simp)]; simp [ints]
      rw [e] at this
      unfold Is
      rw [List.length_drop]
      exact this
theorem ins_strict {S : List Int} {x : Int} {k : Nat} (hS : S.Pairwise (· < ·)) (h1 : ∀ y ∈ S.take k, y < x) (h2 : ∀ y ∈ S.drop k, x < y) : (S.take k ++ ([x] ++ S.drop k)).Pairwise (· < ·) := by
  rw [List.pairwise_append]
  refine ⟨hS.sublist (List.take_sublist _ _), ?_, ?_⟩
  · rw [List.singleton_append, List.pairwise_cons]
    exact ⟨h2, hS.sublist (List.drop_sublist _ _)⟩
  · intro a ha b hb
    rw [List.singleton_append] at hb
    rcases List.mem_cons.1 hb with rfl | hb
    · exact h1 a ha
    · have := h1 a ha; have := h2 b hb; omega
theorem ins_mem {S : List Int} {x : Int} {k : Nat} (y : Int) : y ∈ S.take k ++ ([x] ++ S.drop k) ↔ y = x ∨ y ∈ S := by
  have : y ∈ S ↔ y ∈ S.take k ∨ y ∈ S.drop k := by
    conv => lhs; rw [← List.take_append_drop k S]
    exact List.mem_append
  rw [this, List.mem_append, List.mem_append, List.mem_singleton]
  constructor
  · rintro (h | h | h)
    · exact .inr (.inl h)
    · exact .inl h
    · exact .inr (.inr h)
  · rintro (h | h | h)
    · exact .inr (.inl h)
    · exact .inl h
    · exact .inr (.inr h)
theorem refMake19_ok {H : Heap} {v : AV} {l : List Int} (h : Is H v l) (hL : l.length ≤ 100000) : Cl Tryd.prog pr02 19 [v] H fun r H' => Keep H H' ∧ ∃ S e w, r = .tuple [.agg [.bool false, w], .int .i64 e] ∧ Is H' w S ∧ MR l S e ∧ ∀ z, slBlock w = some z → H.next ≤ z := by
  have nil0 : ∀ H : Heap, Is H (.slice none 0 0 none) [] := fun H => Sl.nil
  obtain ⟨va, vc, vx, rfl, hvc, hvx⟩ := h.form
  refine Cl.enter Tryd.func19 rfl rfl Tryd.ntmps19 (by simp) ?_
  refine walk none0 ?_
  refine Wq.loop (fun m e H' => ∃ (i : Nat) (S : List Int) (w : AV), i ≤ l.length ∧ m = l.length - i ∧ e 0 = .slice va l.length vc vx ∧ e 2 = .ptr (some (H.next, 0)) ∧ e 4 = .ptr (some (H.next + 1, 0)) ∧ e 5 = .int .i64 i ∧
    H'.get H.next = some (.cells [.bool false, .slice none 0 0 none] 24 true false) ∧ H'.get (H.next + 1) = some (.cells [.bool false, w] 24 true false) ∧ FreshG H H' 3 1 w S.length (ints S) ∧ (∀ z, slBlock w = some z → H.next + 2 ≤ z ∧ z < H'.next) ∧ H.next + 2 ≤ H'.next ∧
    S.Pairwise (· < ·) ∧ (∀ x, x ∈ S ↔ x ∈ l.take i) ∧ (∀ x ∈ S, 0 ≤ x) ∧ S.length ≤ 32) l.length ?_ ?_
  · refine ⟨0, [], .slice none 0 0 none, by omega, by omega, by simp, by simp, by simp, by simp, ?_, ?_, ?_, by simp [slBlock], by simp, by simp, by simp, by simp, by simp⟩
    · simp (disch := omega) [ineg]
    · simp (disch := omega) [ineg]
    · exact FreshG.nil (((Upd.rfl.push _).push _).set _ (by simp) (fun h => by omega))
  · rintro m e H' ⟨i, S, w, hi, rfl, g0, g2, g4, g5, gT, gA, hF, hz, hn, hSs, hSm, hS0, hS32⟩
    obtain ⟨wa, wc, wx, rfl, hwc, hwx⟩ := hF.own.form
    by_cases hlt : i < l.length
    · obtain ⟨x, hx⟩ := geti_lt hlt
      have hIl := h.kept hF.keep
      obtain ⟨b, o, cc, t, wf, mk, rfl, _, hb1, hb2, hb3, hb4⟩ := int_at hIl hx
      have hxl : x ∈ l := List.mem_of_getElem? hx
      by_cases hneg : x < 0
      · refine walk (both g0 (both g2 (both g4 (both g5 (both hlt (both hb2 (both hb3 (both hb4 (both hneg gT))))))))) ?_
        refine ⟨hF.keep.set _ (by omega) (by omega), [], 22, _, rfl, nil0 _, .inl ⟨rfl, rfl, ?_⟩, by simp [slBlock]⟩
        rintro ⟨T, hT, hT1, _⟩
        have := hT1 x ((hT.2 x).2 hxl)
        omega
      · have hx0 : 0 ≤ x := by omega
        refine walk (both g0 (both g2 (both g4 (both g5 (both hlt (both hb2 (both hb3 (both hb4 hneg)))))))) ?_
        refine Wq.regionD [0, 1, 2, 3, 4, 5, 6] (by kernel_rfl) ?_
        refine walk (both g0 (both g2 (both g4 (both g5 (both hlt (both hb2 (both hb3 (both hb4 gA)))))))) ?_
        refine (in31_ok (l := S) hF.is (by omega) x).mono fun r H2 _ ⟨ea, eb⟩ => ?_
        subst ea; subst eb
        have hst := take_snoc hx
        by_cases hin : x ∈ S
        · rw [decide_eq_true hin]
          refine walk g5 ?_
          refine Roundq.normal (l.length - (i + 1)) (by omega) ⟨i + 1, S, _, by omega, rfl, by simp [g0], by simp [g2], by simp [g4], by simp, gT, gA, hF, hz, hn, hSs, ?_, hS0, hS32⟩
          intro y
          rw [hst, List.mem_append, List.mem_singleton, ← hSm]
          constructor
          · exact .inl
          · rintro (h | rfl)
            · exact h
            · exact hin
        · rw [decide_eq_false hin]
          refine walk g5 ?_
          refine Wq.loop (fun m e H3 => ∃ k : Nat, k ≤ S.length ∧ m = S.length - k ∧ H3 = H2 ∧ e 0 = .slice (some (b, o)) l.length vc vx ∧ e 2 = .ptr (some (H.next, 0)) ∧ e 4 = .ptr (some (H.next + 1, 0)) ∧ e 5 = .int .i64 i ∧ e 6 = .int .i64 k ∧ ∀ (j : Nat) (y : Int), j < k → S[j]? = some y → y < x) S.length ?_ ?_
          · exact ⟨0, by omega, by omega, rfl, by simp [g0], by simp [g2], by simp [g4], by simp [g5], by simp, fun j y hj => by omega⟩
          · rintro m e2 H3 ⟨k, hk, rfl, rfl, q0, q2, q4, q5, q6, hlo⟩
            by_cases hkl : k < S.length
            · obtain ⟨y, hy⟩ := geti_lt hkl
              obtain ⟨b', o', cc', t', w', mk', rfl, _, hc1, hc2, hc3, hc4⟩ := int_at hF.is hy
              by_cases hyx : y < x
              · refine walk none0 ?_
                refine Wq.regionD [0, 1, 2, 3, 4, 5, 6, 7, 8, 9, 10, 11, 12, 13, 14, 15, 16] (by kernel_rfl) ?_
                refine walk (both q0 (both q2 (both q4 (both q5 (both q6 (both hkl (both hlt (both gA (both hb2 (both hb3 (both hb4 (both hc2 (both hc3 (both hc4 hyx)))))))))))))) ?_
                refine Roundq.normal (S.length - (k + 1)) (by omega) ⟨k + 1, by omega, rfl, rfl, by simp [q0], by simp [q2], by simp [q4], by simp [q5], by simp, fun j z hj hz' => ?_⟩
                rcases Nat.lt_or_ge j k with h' | h'
                · exact hlo j z h' hz'
                · obtain rfl : j = k := by omega
                  rw [hy] at hz'; injection hz' with hz'; omega
              · refine walk none0 ?_
                refine Wq.regionD [0, 1, 2, 3, 4, 5, 6, 7, 8, 9, 10, 11, 12, 13, 14, 15, 16] (by kernel_rfl) ?_
                refine walk (both q0 (both q2 (both q4 (both q5 (both q6 (both hkl (both hlt (both gA (both hb2 (both hb3 (both hb4 (both hc2 (both hc3 (both hc4 hyx)))))))))))))) ?_
                have hgt : ∀ z ∈ S.drop k, x < z := by
                  intro z hz'
                  obtain ⟨j, hj⟩ := List.mem_iff_getElem?.1 hz'
                  rw [List.getElem?_drop] at hj
                  have hxy : x ≠ y := fun e => hin (by rw [e]; exact List.mem_of_getElem? hy)
                  rcases Nat.eq_zero_or_pos j with h' | h'
                  · subst h'; rw [Nat.add_zero, hy] at hj; injection hj with hj; omega
                  · obtain ⟨u1, rfl⟩ := List.getElem?_eq_some_iff.1 hj
                    obtain ⟨u2, rfl⟩ := List.getElem?_eq_some_iff.1 hy
                    have := List.pairwise_iff_getElem.1 hSs k (k + j) u2 u1 (by omega)
                    omega
                have hlo' : ∀ z ∈ S.take k, z < x := by
                  intro z hz'
                  obtain ⟨j, hj⟩ := List.mem_iff_getElem?.1 hz'
                  have hjk : j < k := by have := (List.getElem?_eq_some_iff.1 hj).1; simp at this; omega
                  rw [List.getElem?_take_of_lt hjk] at hj
                  exact hlo j z hjk hj
                have hS' := ins_strict hSs hlo' hgt
                have hM' := @ins_mem S x k
                obtain ⟨P1, P2, hs1, hs2, hP⟩ := cuts hF.is hk
                obtain ⟨p1, p2⟩ := hP _ hF.is
                have hT1 : (S.take k).length ≤ 32 := by simp; omega
                have hD1 : (S.drop k).length ≤ 32 := by simp; omega
                have hTD : (S.take k).length + (S.drop k).length = S.length := by simp; omega
                generalize S.take k = A at *
                generalize S.drop k = B at *
                refine Wq.regionM [(0, 0), (1, 0), (2, 0), (3, 0), (4, 0), (5, 0), (6, 0), (7, 0), (8, 0), (9, 2), (10, 0), (11, 0), (12, 0), (13, 3), (14, 0), (15, 0), (16, 0), (17, 0), (18, 0)] (by kernel_rfl) ?_
                refine mwalk (both q4 (both q6 (both gA hs1))) ?_
                refine Dq.appendL (own := (.empty _)) (new := ints A) (q := A.length) rfl met_none (by simp (disch := omega) [q4, -getElem?_pos, wrapI64, tdivN, tmodN, ipos, ineg, dpos, dneg, slc_l, slc_h, slc_lh, slc_hm, slc_lhm, slc_0, slcR_some, slcR_none, cutS_ok, cutA_ok, byteAt_ok]; first | done | (repeat' (first | rfl | apply And.intro))) ⟨_, rfl, by simp; first | done | (repeat' (first | rfl | apply And.intro))⟩ rfl (by kernel_rfl) (by kernel_rfl) (((p1.kept (Upd.rfl.push _)).src')) (by simp) (ints_one _) (by omega) (by omega) fun w1 H4 o1 b1 s1 l1 => ?_
                have kS4 : Keep H3 H4 := (Upd.rfl.push _).butOne b1 (fun z hz' hl => by simp [slBlock] at hz'; omega)
                have m1 : H3.next + 1 ≤ H4.next := by have := b1.1; simpa using this
                have z1 : ∀ z, slBlock w1 = some z → H3.next ≤ z := by
                  intro z hz1
                  rcases s1 with e | e
                  · rw [e] at hz1; simp [slBlock] at hz1; omega
                  · rw [e] at hz1; simp at hz1; omega
                rw [Nat.zero_add, List.nil_append] at o1
                have f1 : FreshG H H4 3 1 w1 A.length (ints A) := (FreshG.made (H0 := H) (cs := []) (n := 0) (elem := 3) (s := 1) (hF.keep.push _) (by simp) (b := H3.next) (by omega) (by simp) (by simp)).app o1 b1 s1
                obtain ⟨wa1, wc1, wx1, rfl, _⟩ := o1.form
                have gA4 := (kS4.get (by omega)).trans gA
                have hb24 := (kS4.get hb1).trans hb2
                refine mwalk (both q0 (both q4 (both q5 (both q6 (both gA (both gA4 (both hb2 (both hb24 (both hb3 (both hb4 hlt)))))))))) ?_
                have kB : Keep H4 (H4.push (.cells [.int .i64 x] 3 true false)) := Upd.rfl.push _
                refine Dq.appendL (own := (o1.kept kB)) (new := [.int .i64 x]) (q := 1) rfl met_none (by simp (disch := omega) [q4, -getElem?_pos, wrapI64, tdivN, tmodN, ipos, ineg, dpos, dneg, slc_l, slc_h, slc_lh, slc_hm, slc_lhm, slc_0, slcR_some, slcR_none, cutS_ok, cutA_ok, byteAt_ok]; first | done | (repeat' (first | rfl | apply And.intro))) ⟨_, rfl, by simp; first | done | (repeat' (first | rfl | apply And.intro))⟩ rfl (by kernel_rfl) (by kernel_rfl) (by refine ⟨by simp, ?_⟩; simp (disch := omega) [srcCells, cellsAt, q4, -getElem?_pos, wrapI64, tdivN, tmodN, ipos, ineg, dpos, dneg, slc_l, slc_h, slc_lh, slc_hm, slc_lhm, slc_0, slcR_some, slcR_none, cutS_ok, cutA_ok, byteAt_ok]; first | done | rfl) (by simp [q4]) (by simp [q4]) (by omega) (by omega) fun w2 H5 o2 b2 s2 l2 => ?_
                have m2 : H4.next + 1 ≤ H5.next := by have := b2.1; simpa using this
                have z2 : ∀ z, slBlock w2 = some z → H3.next ≤ z := by
                  intro z hz1
                  rcases s2 with e | e
                  · rw [e] at hz1; exact z1 z hz1
                  · rw [e] at hz1; simp at hz1; omega
                have f2 := (f1.then kB).app o2 b2 s2
                obtain ⟨wa2, wc2, wx2, rfl, _⟩ := o2.form
                have kS5 : Keep H3 H5 := (kS4.then kB).butOne b2 (fun z hz' hl => by have := z1 z hz'; omega)
                have gA5 := (kS5.get (by omega)).trans gA
                have p2' := p2.kept kS5
                refine mwalk (both q0 (both q4 (both q5 (both q6 (both gA (both gA4 (both gA5 hs2))))))) ?_
                refine Dq.appendL (own := o2) (new := ints B) (q := B.length) rfl met_none (by simp (disch := omega) [q4, -getElem?_pos, wrapI64, tdivN, tmodN, ipos, ineg, dpos, dneg, slc_l, slc_h, slc_lh, slc_hm, slc_lhm, slc_0, slcR_some, slcR_none, cutS_ok, cutA_ok, byteAt_ok]; first | done | (repeat' (first | rfl | apply And.intro))) ⟨_, rfl, by simp; first | done | (repeat' (first | rfl | apply And.intro))⟩ rfl (by kernel_rfl) (by kernel_rfl) ((p2'.src')) (by simp) (ints_one _) (by omega) (by omega) fun w3 H6 o3 b3 s3 l3 => ?_
                have kS6 : Keep H3 H6 := kS5.butOne b3 (fun z hz' hl => by have := z2 z hz'; omega)
                have gA6 := (kS6.get (by omega)).trans gA
                have gT6 := (kS6.get (by omega)).trans gT
                have m3 : H5.next ≤ H6.next := b3.1
                have z3 : ∀ z, slBlock w3 = some z → H3.next ≤ z := by
                  intro z hz1
                  rcases s3 with e | e
                  · rw [e] at hz1; exact z2 z hz1
                  · rw [e] at hz1; simp at hz1; omega
                have z3' : ∀ z, slBlock w3 = some z → z < H6.next := by
                  intro z hz1
                  rcases l3 z hz1 with e | e
                  · rcases l2 z e with e' | e'
                    · rcases l1 z e' with e'' | e''
                      · simp [slBlock] at e''; omega
                      · omega
                    · omega
                  · exact e
                have f3 := f2.app o3 b3 s3
                have hSl : (A ++ ([x] ++ B)).length = A.length + 1 + B.length := by simp; omega
                have hcs3 : ints A ++ [AV.int .i64 x] ++ ints B = ints (A ++ ([x] ++ B)) := by simp [ints]
                rw [hcs3, ← hSl] at f3
                obtain ⟨wa3, wc3, wx3, rfl, _⟩ := o3.form
                rw [← hSl] at f3 z3 z3' ⊢
                have hM3 : ∀ y, y ∈ A ++ ([x] ++ B) ↔ y ∈ l.take (i + 1) := by
                  intro y
                  rw [hM', hSm, hst, List.mem_append, List.mem_singleton]
                  exact Or.comm
                generalize A ++ ([x] ++ B) = S' at *
                refine mwalk (both q4 gA6) ?_
                by_cases h32 : 32 < S'.length
                · have h32I : 32 < (S'.length : Int) := by omega
                  refine walk (both q2 (both q4 (both h32I gT6))) ?_
                  refine ⟨(f3.keep.set _ (by omega) (by omega)).set _ (by simp; omega) (by omega), [], 22, _, rfl, nil0 _, .inl ⟨rfl, rfl, ?_⟩, by simp [slBlock]⟩
                  rintro ⟨T, hT, hT1, hT2⟩
                  have := canon_le hS' hT.1 (fun y hy => (hT.2 y).2 (List.mem_of_mem_take ((hM3 y).1 hy)))
                  omega
                · have h32I : ¬ 32 < (S'.length : Int) := by omega
                  refine walk (both q2 (both q4 (both q5 h32I))) ?_
                  refine Roundq.normal (l.length - (i + 1)) (by omega) ⟨i + 1, S', .slice wa3 S'.length wc3 wx3, by omega, rfl, by simp [q0], by simp [q2], by simp [q4], by simp, ?_, Heap.get_set_same _ _ _, f3.put _ (by omega) (by omega) (fun e => by have := z3 _ e; omega), ?_, by simp; omega, hS', hM3, ?_, by omega⟩
                  · rw [Heap.get_set_ne _ _ (by omega)]; exact gT6
                  · intro z hz'; have := z3 z hz'; have := z3' z hz'; simp; omega
                  · intro y hy
                    rcases (hM' y).1 hy with rfl | h'
                    · exact hx0
                    · exact hS0 y h'
            · have hgt : ∀ z ∈ S.drop k, x < z := by
                intro z hz'
                rw [List.drop_eq_nil_of_le (by omega)] at hz'
                cases hz'
              have hklI : ¬ (k : Int) < S.length := by omega
              refine walk none0 ?_
              refine Wq.regionD [0, 1, 2, 3, 4, 5, 6, 7, 8, 9, 10, 11, 12, 13, 14, 15, 16] (by kernel_rfl) ?_
              refine walk (both q0 (both q2 (both q4 (both q5 (both q6 (both hlt (both gA (both hb2 (both hb3 (both hb4 hklI)))))))))) ?_
              have hlo' : ∀ z ∈ S.take k, z < x := by
                intro z hz'
                obtain ⟨j, hj⟩ := List.mem_iff_getElem?.1 hz'
                have hjk : j < k := by have := (List.getElem?_eq_some_iff.1 hj).1; simp at this; omega
                rw [List.getElem?_take_of_lt hjk] at hj
                exact hlo j z hjk hj
              have hS' := ins_strict hSs hlo' hgt
              have hM' := @ins_mem S x k
              obtain ⟨P1, P2, hs1, hs2, hP⟩ := cuts hF.is hk
              obtain ⟨p1, p2⟩ := hP _ hF.is
              have hT1 : (S.take k).length ≤ 32 := by simp; omega
              have hD1 : (S.drop k).length ≤ 32 := by simp; omega
              have hTD : (S.take k).length + (S.drop k).length = S.length := by simp; omega
              generalize S.take k = A at *
              generalize S.drop k = B at *
              refine Wq.regionM [(0, 0), (1, 0), (2, 0), (3, 0), (4, 0), (5, 0), (6, 0), (7, 0), (8, 0), (9, 2), (10, 0), (11, 0), (12, 0), (13, 3), (14, 0), (15, 0), (16, 0), (17, 0), (18, 0)] (by kernel_rfl) ?_
              refine mwalk (both q4 (both q6 (both gA hs1))) ?_
              refine Dq.appendL (own := (.empty _)) (new := ints A) (q := A.length) rfl met_none (by simp (disch := omega) [q4, -getElem?_pos, wrapI64, tdivN, tmodN, ipos, ineg, dpos, dneg, slc_l, slc_h, slc_lh, slc_hm, slc_lhm, slc_0, slcR_some, slcR_none, cutS_ok, cutA_ok, byteAt_ok]; first | done | (repeat' (first | rfl | apply And.intro))) ⟨_, rfl, by simp; first | done | (repeat' (first | rfl | apply And.intro))⟩ rfl (by kernel_rfl) (by kernel_rfl) (((p1.kept (Upd.rfl.push _)).src')) (by simp) (ints_one _) (by omega) (by omega) fun w1 H4 o1 b1 s1 l1 => ?_
              have kS4 : Keep H3 H4 := (Upd.rfl.push _).butOne b1 (fun z hz' hl => by simp [slBlock] at hz'; omega)
              have m1 : H3.next + 1 ≤ H4.next := by have := b1.1; simpa using this
              have z1 : ∀ z, slBlock w1 = some z → H3.next ≤ z := by
                intro z hz1
                rcases s1 with e | e
                · rw [e] at hz1; simp [slBlock] at hz1; omega
                · rw [e] at hz1; simp at hz1; omega
              rw [Nat.zero_add, List.nil_append] at o1
              have f1 : FreshG H H4 3 1 w1 A.length (ints A) := (FreshG.made (H0 := H) (cs := []) (n := 0) (elem := 3) (s := 1) (hF.keep.push _) (by simp) (b := H3.next) (by omega) (by simp) (by simp)).app o1 b1 s1
              obtain ⟨wa1, wc1, wx1, rfl, _⟩ := o1.form
              have gA4 := (kS4.get (by omega)).trans gA
              have hb24 := (kS4.get hb1).trans hb2
              refine mwalk (both q0 (both q4 (both q5 (both q6 (both gA (both gA4 (both hb2 (both hb24 (both hb3 (both hb4 hlt)))))))))) ?_
              have kB : Keep H4 (H4.push (.cells [.int .i64 x] 3 true false)) := Upd.rfl.push _
              refine Dq.appendL (own := (o1.kept kB)) (new := [.int .i64 x]) (q := 1) rfl met_none (by simp (disch := omega) [q4, -getElem?_pos, wrapI64, tdivN, tmodN, ipos, ineg, dpos, dneg, slc_l, slc_h, slc_lh, slc_hm, slc_lhm, slc_0, slcR_some, slcR_none, cutS_ok, cutA_ok, byteAt_ok]; first | done | (repeat' (first | rfl | apply And.intro))) ⟨_, rfl, by simp; first | done | (repeat' (first | rfl | apply And.intro))⟩ rfl (by kernel_rfl) (by kernel_rfl) (by refine ⟨by simp, ?_⟩; simp (disch := omega) [srcCells, cellsAt, q4, -getElem?_pos, wrapI64, tdivN, tmodN, ipos, ineg, dpos, dneg, slc_l, slc_h, slc_lh, slc_hm, slc_lhm, slc_0, slcR_some, slcR_none, cutS_ok, cutA_ok, byteAt_ok]; first | done | rfl) (by simp [q4]) (by simp [q4]) (by omega) (by omega) fun w2 H5 o2 b2 s2 l2 => ?_
              have m2 : H4.next + 1 ≤ H5.next := by have := b2.1; simpa using this
              have z2 : ∀ z, slBlock w2 = some z → H3.next ≤ z := by
                intro z hz1
                rcases s2 with e | e
                · rw [e] at hz1; exact z1 z hz1
                · rw [e] at hz1; simp at hz1; omega
              have f2 := (f1.then kB).app o2 b2 s2
              obtain ⟨wa2, wc2, wx2, rfl, _⟩ := o2.form
              have kS5 : Keep H3 H5 := (kS4.then kB).butOne b2 (fun z hz' hl => by have := z1 z hz'; omega)
              have gA5 := (kS5.get (by omega)).trans gA
              have p2' := p2.kept kS5
              refine mwalk (both q0 (both q4 (both q5 (both q6 (both gA (both gA4 (both gA5 hs2))))))) ?_
              refine Dq.appendL (own := o2) (new := ints B) (q := B.length) rfl met_none (by simp (disch := omega) [q4, -getElem?_pos, wrapI64, tdivN, tmodN, ipos, ineg, dpos, dneg, slc_l, slc_h, slc_lh, slc_hm, slc_lhm, slc_0, slcR_some, slcR_none, cutS_ok, cutA_ok, byteAt_ok]; first | done | (repeat' (first | rfl | apply And.intro))) ⟨_, rfl, by simp; first | done | (repeat' (first | rfl | apply And.intro))⟩ rfl (by kernel_rfl) (by kernel_rfl) ((p2'.src')) (by simp) (ints_one _) (by omega) (by omega) fun w3 H6 o3 b3 s3 l3 => ?_
              have kS6 : Keep H3 H6 := kS5.butOne b3 (fun z hz' hl => by have := z2 z hz'; omega)
              have gA6 := (kS6.get (by omega)).trans gA
              have gT6 := (kS6.get (by omega)).trans gT
              have m3 : H5.next ≤ H6.next := b3.1
              have z3 : ∀ z, slBlock w3 = some z → H3.next ≤ z := by
                intro z hz1
                rcases s3 with e | e
                · rw [e] at hz1; exact z2 z hz1
                · rw [e] at hz1; simp at hz1; omega
              have z3' : ∀ z, slBlock w3 = some z → z < H6.next := by
                intro z hz1
                rcases l3 z hz1 with e | e
                · rcases l2 z e with e' | e'
                  · rcases l1 z e' with e'' | e''
                    · simp [slBlock] at e''; omega
                    · omega
                  · omega
                · exact e
              have f3 := f2.app o3 b3 s3
              have hSl : (A ++ ([x] ++ B)).length = A.length + 1 + B.length := by simp; omega
              have hcs3 : ints A ++ [AV.int .i64 x] ++ ints B = ints (A ++ ([x] ++ B)) := by simp [ints]
              rw [hcs3, ← hSl] at f3
              obtain ⟨wa3, wc3, wx3, rfl, _⟩ := o3.form
              rw [← hSl] at f3 z3 z3' ⊢
              have hM3 : ∀ y, y ∈ A ++ ([x] ++ B) ↔ y ∈ l.take (i + 1) := by
                intro y
                rw [hM', hSm, hst, List.mem_append, List.mem_singleton]
                exact Or.comm
              generalize A ++ ([x] ++ B) = S' at *
              refine mwalk (both q4 gA6) ?_
              by_cases h32 : 32 < S'.length
              · have h32I : 32 < (S'.length : Int) := by omega
                refine walk (both q2 (both q4 (both h32I gT6))) ?_
                refine ⟨(f3.keep.set _ (by omega) (by omega)).set _ (by simp; omega) (by omega), [], 22, _, rfl, nil0 _, .inl ⟨rfl, rfl, ?_⟩, by simp [slBlock]⟩
                rintro ⟨T, hT, hT1, hT2⟩
                have := canon_le hS' hT.1 (fun y hy => (hT.2 y).2 (List.mem_of_mem_take ((hM3 y).1 hy)))
                omega
              · have h32I : ¬ 32 < (S'.length : Int) := by omega
                refine walk (both q2 (both q4 (both q5 h32I))) ?_
                refine Roundq.normal (l.length - (i + 1)) (by omega) ⟨i + 1, S', .slice wa3 S'.length wc3 wx3, by omega, rfl, by simp [q0], by simp [q2], by simp [q4], by simp, ?_, Heap.get_set_same _ _ _, f3.put _ (by omega) (by omega) (fun e => by have := z3 _ e; omega), ?_, by simp; omega, hS', hM3, ?_, by omega⟩
                · rw [Heap.get_set_ne _ _ (by omega)]; exact gT6
                · intro z hz'; have := z3 z hz'; have := z3' z hz'; simp; omega
                · intro y hy
                  rcases (hM' y).1 hy with rfl | h'
                  · exact hx0
                  · exact hS0 y h'
    · obtain rfl : i = l.length := by omega
      refine walk (both g0 (both g2 (both g4 (both g5 (both gA gT))))) ?_
      refine ⟨hF.keep.set _ (by omega) (by omega), S, 0, _, rfl, Sl.set hF.is _ (fun e => by have := (hz _ e).1; omega), .inr ⟨rfl, ⟨hSs, fun y => by rw [hSm, List.take_length]⟩, hS0, hS32⟩, fun z hz' => by have := (hz z hz').1; omega⟩
end Go.Abs

/- Chapter 02: WhiteMakes. -/
namespace Go.Abs
open Go.Proofs
set_option maxRecDepth 100000
set_option linter.unusedVariables false
set_option linter.unusedSimpArgs false

theorem Make18_ok {H : Heap} {v : AV} {l : List Int} (h : Is H v l) (hL : l.length ≤ 100000) : Cl Tryd.prog pr02 18 [v] H fun r H' => Keep H H' ∧ ∃ S e w, r = .tuple [.agg [.bool false, w], .int .i64 e] ∧ Is H' w S ∧ MR l S e ∧ ∀ z, slBlock w = some z → H.next ≤ z := by
  obtain ⟨va, vc, vx, rfl, hvc, hvx⟩ := h.form
  have k0 : Keep H (H.push (.cells [.bool false, .slice none 0 0 none] 24 true false)) := Upd.rfl.push _
  have gT : (H.push (.cells [.bool false, .slice none 0 0 none] 24 true false)).get H.next = some (.cells [.bool false, .slice none 0 0 none] 24 true false) := by simp
  have nT : (H.push (.cells [.bool false, .slice none 0 0 none] 24 true false)).next = H.next + 1 := by simp
  refine Cl.enter Tryd.func18 rfl rfl Tryd.ntmps18 (by simp) ?_
  refine walk none0 ?_
  generalize H.push (.cells [.bool false, .slice none 0 0 none] 24 true false) = H1 at *
  refine (made38_ok (h.kept k0) hL).mono fun r H2 _ ⟨kA, S, e, w, ea, hs, hm, hz⟩ => ?_
  subst ea
  have gT2 := (kA.get (by omega)).trans gT
  have n2 : H.next < H2.next := by have := kA.next; omega
  obtain ⟨wa, wc, wx, rfl, hwc, hwx⟩ := hs.form
  refine walk gT2 ?_
  exact ⟨(k0.then kA).set _ n2 (by omega), S, e, _, rfl, Sl.set hs _ (fun e => by have := hz _ e; omega), hm, fun z hz' => by have := hz z hz'; omega⟩
theorem Can20_ok {H : Heap} {a : Bool} {v : AV} {l : List Int} (h : Is H v l) (hL : l.length ≤ 100000) : Cl Tryd.prog pr02 20 [.agg [.bool a, v]] H fun r H' => Keep H H' ∧ r = .bool (canP a l) := by
  obtain ⟨va, vc, vx, rfl, hvc, hvx⟩ := h.form
  have kB : Keep H (H.push (.cells [.bool a, .slice va l.length vc vx] 24 true false)) := Upd.rfl.push _
  refine Cl.enter Tryd.func20 rfl rfl Tryd.ntmps20 (by simp) ?_
  refine walk none0 ?_
  refine (can34_ok (h.kept kB) hL).mono fun r H1 _ ⟨kA, ea⟩ => ?_
  subst ea
  refine walk none0 ?_
  exact ⟨kB.then kA, rfl⟩
theorem whiteMakes_main {H : Heap} {a : Bool} {v w : AV} {l m : List Int} (h : Is H v l) (h' : Is H w m) : Cl Tryd.prog pr02 5 [v, .agg [.bool a, w]] H fun r _ => r = .bool true := by
  obtain ⟨va, vc, vx, rfl, hvc, hvx⟩ := h.form
  obtain ⟨wa, wc, wx, rfl, hwc, hwx⟩ := h'.form
  have kB : Keep H (H.push (.cells [.bool a, .slice wa m.length wc wx] 24 true false)) := Upd.rfl.push _
  have gA : (H.push (.cells [.bool a, .slice wa m.length wc wx] 24 true false)).get H.next = some (.cells [.bool a, .slice wa m.length wc wx] 24 true false) := by simp
  have nA : H.next < (H.push (.cells [.bool a, .slice wa m.length wc wx] 24 true false)).next := by simp
  have hl2 : (l.take 200).length ≤ 200 := by simp; omega
  have hm2 : (m.take 200).length ≤ 200 := by simp; omega
  have hlt := take_twice l
  have hmt := take_twice m
  refine Cl.enter Tryd.func5 rfl rfl Tryd.ntmps5 (by simp) ?_
  refine walk none0 ?_
  generalize H.push (.cells [.bool a, .slice wa m.length wc wx] 24 true false) = H1 at *
  refine Wq.regionM [(0, 0), (1, 0), (2, 2), (3, 0), (4, 0), (5, 0)] (by kernel_rfl) ?_
  refine mwalk none0 ?_
  refine (few17_ok (h.kept kB)).mono fun r H2 _ f2 => ?_
  have gA2 := (f2.keep.get nA).trans gA
  have n2 : H.next < H2.next := Nat.lt_of_lt_of_le nA f2.keep.next
  refine mwalk (both gA gA2) ?_
  refine (short9_ok (h'.kept (kB.then f2.keep))).mono fun r' H3 _ ⟨u, ea, f3⟩ => ?_
  subst ea
  generalize l.take 200 = L at *
  generalize m.take 200 = M at *
  have i2 : Is H2 r L := f2.is
  have i3 : Is H3 u M := f3.is
  have hnew2 := f2.new
  have hnew3 := f3.new
  have i2' := i2.kept f3.keep
  obtain ⟨la, lc, lx, rfl, hlc, hlx⟩ := i2.form
  obtain ⟨ua, uc, ux, rfl, huc, hux⟩ := i3.form
  have gA3 := (f3.keep.get n2).trans gA2
  have n3 : H.next < H3.next := Nat.lt_of_lt_of_le n2 f3.keep.next
  refine mwalk (both gA (both gA2 gA3)) ?_
  obtain ⟨H4, hH4⟩ : ∃ H4, H4 = H3.set H.next (.cells [.bool a, .slice ua M.length uc ux] 24 true false) := ⟨_, rfl⟩
  have gA4 : H4.get H.next = some (.cells [.bool a, .slice ua M.length uc ux] 24 true false) := by rw [hH4]; exact Heap.get_set_same _ _ _
  have n4 : H.next < H4.next := by rw [hH4]; simpa using n3
  have j1 : Is H4 (.slice la L.length lc lx) L := by rw [hH4]; exact Sl.set i2' _ (fun e => by have := hnew2 _ e; omega)
  have j2 : Is H4 (.slice ua M.length uc ux) M := by rw [hH4]; exact Sl.set i3 _ (fun e => by have := hnew3 _ e; omega)
  rw [← hH4]
  have hLs : L.length ≤ 100000 := by omega
  have hMs : M.length ≤ 100000 := by omega
  refine walk none0 ?_
  have hfew := few17_ok j1
  rw [hlt] at hfew
  refine hfew.mono fun r H5 _ f5 => ?_
  have i5 : Is H5 r L := f5.is
  have gA5 := (f5.keep.get n4).trans gA4
  have n5 : H.next < H5.next := Nat.lt_of_lt_of_le n4 f5.keep.next
  refine walk none0 ?_
  refine (Make18_ok i5 hLs).mono fun r' H6 _ ⟨k6, S, e1, x, ea, is, hS, _⟩ => ?_
  subst ea
  obtain ⟨xa, xc, xx, rfl, hxc, hxx⟩ := is.form
  have gA6 := (k6.get n5).trans gA5
  have n6 : H.next < H6.next := Nat.lt_of_lt_of_le n5 k6.next
  refine walk none0 ?_
  have k7 := keep_new2 H6 (.cells [.bool false, .slice none 0 0 none] 24 true false) (.cells [.bool false, .slice xa S.length xc xx] 24 true false)
  have gB7 : ((H6.push (.cells [.bool false, .slice none 0 0 none] 24 true false)).set H6.next (.cells [.bool false, .slice xa S.length xc xx] 24 true false)).get H6.next = some (.cells [.bool false, .slice xa S.length xc xx] 24 true false) := Heap.get_set_same _ _ _
  have nB7 : H6.next < ((H6.push (.cells [.bool false, .slice none 0 0 none] 24 true false)).set H6.next (.cells [.bool false, .slice xa S.length xc xx] 24 true false)).next := by simp
  have gA7 := (k7.get n6).trans gA6
  have is7 := is.kept k7
  have j17 := j1.kept ((f5.keep.then k6).then k7)
  have k47 := (f5.keep.then k6).then k7
  generalize (H6.push (.cells [.bool false, .slice none 0 0 none] 24 true false)).set H6.next (.cells [.bool false, .slice xa S.length xc xx] 24 true false) = H7 at *
  have n7 : H.next < H7.next := by omega
  refine (refMake19_ok j17 hLs).mono fun r' H8 _ ⟨k8, S', e2, y, ea, is', hS', _⟩ => ?_
  subst ea
  obtain ⟨rfl, rfl⟩ := MR_one hS hS'
  obtain ⟨ya, yc, yx, rfl, hyc, hyx⟩ := is'.form
  have gA8 := (k8.get n7).trans gA7
  have gB8 := (k8.get nB7).trans gB7
  have n8 : H.next < H8.next := Nat.lt_of_lt_of_le n7 k8.next
  have nB8 : H6.next < H8.next := Nat.lt_of_lt_of_le nB7 k8.next
  refine walk none0 ?_
  have k9 := keep_new2 H8 (.cells [.bool false, .slice none 0 0 none] 24 true false) (.cells [.bool false, .slice ya S.length yc yx] 24 true false)
  have gC9 : ((H8.push (.cells [.bool false, .slice none 0 0 none] 24 true false)).set H8.next (.cells [.bool false, .slice ya S.length yc yx] 24 true false)).get H8.next = some (.cells [.bool false, .slice ya S.length yc yx] 24 true false) := Heap.get_set_same _ _ _
  have gA9 := (k9.get n8).trans gA8
  have gB9 := (k9.get nB8).trans gB8
  have is9 := (is7.kept k8).kept k9
  have is9' := is'.kept k9
  have k49 := (k47.then k8).then k9
  generalize (H8.push (.cells [.bool false, .slice none 0 0 none] 24 true false)).set H8.next (.cells [.bool false, .slice ya S.length yc yx] 24 true false) = H9 at *
  have n9 : H.next < H9.next := by have := k9.next; omega
  have nB9 : H6.next < H9.next := by have := k9.next; omega
  have hcS := MR_can hS
  obtain ⟨_, hSl⟩ := canP_ok hcS
  refine Wq.regionM [(0, 0), (1, 0), (2, 0), (3, 0), (4, 0), (5, 0), (6, 0), (7, 0), (8, 0), (9, 0), (10, 0), (11, 0), (12, 3), (13, 0), (14, 0), (15, 0), (16, 0), (17, 0), (18, 0), (19, 0), (20, 0), (21, 0), (22, 0), (23, 0)] (by kernel_rfl) ?_
  refine mwalk (both gB9 gC9) ?_
  refine (same16_ok is9 is9' hSl).mono fun r' H10 _ ⟨ea, k10⟩ => ?_
  subst ea
  have gA10 := (k10.get n9).trans gA9
  have gB10 := (k10.get nB9).trans gB9
  have n10 : H.next < H10.next := Nat.lt_of_lt_of_le n9 k10.next
  have nB10 : H6.next < H10.next := Nat.lt_of_lt_of_le nB9 k10.next
  have k410 := k49.then k10
  refine mwalk (both gA9 gA10) ?_
  have hsh := short9_ok (a := a) (j2.kept k410)
  rw [hmt] at hsh
  refine hsh.mono fun r' H11 _ ⟨x4, ea, f11⟩ => ?_
  subst ea
  have gA11 := (f11.keep.get n10).trans gA10
  have gB11 := (f11.keep.get nB10).trans gB10
  have n11 : H.next < H11.next := Nat.lt_of_lt_of_le n10 f11.keep.next
  have nB11 : H6.next < H11.next := Nat.lt_of_lt_of_le nB10 f11.keep.next
  refine mwalk none0 ?_
  refine (Can20_ok (a := a) f11.is hMs).mono fun r' H12 _ ⟨k12, ea⟩ => ?_
  subst ea
  have gA12 := (k12.get n11).trans gA11
  have gB12 := (k12.get nB11).trans gB11
  have nB12 : H6.next < H12.next := Nat.lt_of_lt_of_le nB11 k12.next
  have k412 := (k410.then f11.keep).then k12
  refine mwalk (both gA9 (both gA10 (both gA11 gA12))) ?_
  refine (refCan15_ok (a := a) (j2.kept k412) hMs).mono fun r' H13 _ ⟨k13, ea⟩ => ?_
  subst ea
  have gB13 := (k13.get nB12).trans gB12
  generalize canP a M = z
  have isx := is9.kept (((k10.then f11.keep).then k12).then k13)
  refine mwalk (both gB13 (both gB12 (both gB11 (both gB10 gB9)))) ?_
  refine (Can20_ok (a := false) isx hSl).mono fun r' H14 _ ⟨k14, ea⟩ => ?_
  subst ea
  rw [hcS]
  refine mwalk none0 ?_
  refine (lives_ok _).mono fun r H15 _ ⟨ea, eb⟩ => ?_
  subst ea; subst eb
  refine mwalk none0 ?_
  refine walk none0 ?_
  rfl
end Go.Abs

/- Chapter 02: subsets, the reference walked. -/
namespace Go.Abs
open Go.Proofs
set_option maxRecDepth 100000
set_option linter.unusedVariables false
set_option linter.unusedSimpArgs false

theorem Subset26_ok {H : Heap} {a b : Bool} {v w : AV} {l m : List Int} (h : Is H v l) (h' : Is H w m) (hL : l.length ≤ 100000) (hM : m.length ≤ 100000) : Cl Tryd.prog pr02 26 [.agg [.bool a, v], .agg [.bool b, w]] H fun r H' => Keep H H' ∧ r = .bool (subP a l b m) := by
  obtain ⟨va, vc, vx, rfl, hvc, hvx⟩ := h.form
  obtain ⟨wa, wc, wx, rfl, hwc, hwx⟩ := h'.form
  have kB : Keep H ((H.push (.cells [.bool a, .slice va l.length vc vx] 24 true false)).push (.cells [.bool b, .slice wa m.length wc wx] 24 true false)) := (Upd.rfl.push _).push _
  refine Cl.enter Tryd.func26 rfl rfl Tryd.ntmps26 (by simp) ?_
  refine walk none0 ?_
  refine (subset40_ok (h.kept kB) (h'.kept kB) hL hM).mono fun r H2 _ ⟨kA, ea⟩ => ?_
  subst ea
  refine walk none0 ?_
  exact ⟨kB.then kA, rfl⟩
theorem refSubset25_ok {H : Heap} {a b : Bool} {v w : AV} {l m : List Int} (h : Is H v l) (h' : Is H w m) (hL : l.length ≤ 100000) (hM : m.length ≤ 100000) : Cl Tryd.prog pr02 25 [.agg [.bool a, v], .agg [.bool b, w]] H fun r H' => Keep H H' ∧ r = .bool (subP a l b m) := by
  obtain ⟨va, vc, vx, rfl, hvc, hvx⟩ := h.form
  obtain ⟨wa, wc, wx, rfl, hwc, hwx⟩ := h'.form
  have kB : Keep H ((H.push (.cells [.bool a, .slice va l.length vc vx] 24 true false)).push (.cells [.bool b, .slice wa m.length wc wx] 24 true false)) := (Upd.rfl.push _).push _
  have gA : ((H.push (.cells [.bool a, .slice va l.length vc vx] 24 true false)).push (.cells [.bool b, .slice wa m.length wc wx] 24 true false)).get H.next = some (.cells [.bool a, .slice va l.length vc vx] 24 true false) := by simp (disch := omega) [ineg]
  have gB : ((H.push (.cells [.bool a, .slice va l.length vc vx] 24 true false)).push (.cells [.bool b, .slice wa m.length wc wx] 24 true false)).get (H.next + 1) = some (.cells [.bool b, .slice wa m.length wc wx] 24 true false) := by simp (disch := omega) [ineg]
  have nB : H.next + 1 < ((H.push (.cells [.bool a, .slice va l.length vc vx] 24 true false)).push (.cells [.bool b, .slice wa m.length wc wx] 24 true false)).next := by simp
  refine Cl.enter Tryd.func25 rfl rfl Tryd.ntmps25 (by simp) ?_
  refine walk none0 ?_
  generalize (H.push (.cells [.bool a, .slice va l.length vc vx] 24 true false)).push (.cells [.bool b, .slice wa m.length wc wx] 24 true false) = H1 at *
  refine (refCan15_ok (h.kept kB) hL).mono fun r H2 _ ⟨kA, ea⟩ => ?_
  subst ea
  have gA2 := (kA.get (by omega)).trans gA
  have gB2 := (kA.get nB).trans gB
  have n2 : H.next + 1 < H2.next := Nat.lt_of_lt_of_le nB kA.next
  cases hca : canP a l with
  | false =>
    have e : subP a l b m = false := by unfold subP; rw [hca]; rfl
    rw [e]
    refine walk none0 ?_
    exact ⟨kB.then kA, rfl⟩
  | true =>
    refine walk gB2 ?_
    refine (refCan15_ok (h'.kept (kB.then kA)) hM).mono fun r H3 _ ⟨kC, ea⟩ => ?_
    subst ea
    have gA3 := (kC.get (by omega)).trans gA2
    have gB3 := (kC.get n2).trans gB2
    have n3 : H.next + 1 < H3.next := Nat.lt_of_lt_of_le n2 kC.next
    have k3 := (kB.then kA).then kC
    cases hcb : canP b m with
    | false =>
      have e : subP a l b m = false := by unfold subP; rw [hca, hcb]; rfl
      rw [e]
      refine walk none0 ?_
      exact ⟨k3, rfl⟩
    | true =>
      have fin : (a && !b) = true → subP a l b m = false := fun hh => by unfold subP; rw [hca, hcb, hh]; rfl
      have rest : (a && !b) = false → subP a l b m = decide (∀ x ∈ l, hasP b m x = true) := fun hh => by unfold subP; rw [hca, hcb, hh]; simp
      rcases (by cases a <;> simp : a = false ∨ a = true) with ha | ha
      · have hab : (a && !b) = false := by rw [ha]; rfl
        refine walk (both gA3 ha) ?_
        refine Wq.loop (fun k e H' => ∃ i : Nat, i ≤ l.length ∧ k = l.length - i ∧ Keep H3 H' ∧ e 2 = .ptr (some (H.next, 0)) ∧ e 3 = .ptr (some (H.next + 1, 0)) ∧ e 5 = .int .i64 i ∧ ∀ j < i, ∀ x, l[j]? = some x → hasP b m x = true) l.length ?_ ?_
        · exact ⟨0, by omega, by omega, Upd.rfl, by simp, by simp, by simp, fun j hj => by omega⟩
        · rintro k e H' ⟨i, hi, rfl, kD, g2, g3, g5, hlo⟩
          have gA4 := (kD.get (by omega)).trans gA3
          have gB4 := (kD.get n3).trans gB3
          by_cases hlt : i < l.length
          · obtain ⟨x, hx⟩ := geti_lt hlt
            obtain ⟨bb, o, cc, t, w, mk, rfl, _, hb1, hb2, hb3, hb4⟩ := int_at (h.kept (k3.then kD)) hx
            refine walk (both g2 (both g3 (both g5 (both hlt gA4)))) ?_
            refine Wq.regionD [0, 1, 2, 3, 4, 5, 6, 7] (by kernel_rfl) ?_
            refine walk (both g2 (both g3 (both g5 (both hlt (both gA4 (both gB4 (both hb2 (both hb3 hb4)))))))) ?_
            refine (refHas11_ok (h'.kept (k3.then kD)) hM x).mono fun r H5 _ ⟨kE, ea⟩ => ?_
            subst ea
            cases hh : hasP b m x with
            | false =>
              have hno : ¬ ∀ x ∈ l, hasP b m x = true := fun hall => by rw [hall x (List.mem_of_getElem? hx)] at hh; cases hh
              rw [rest hab, decide_eq_false hno]
              refine walk none0 ?_
              exact ⟨(k3.then kD).then kE, rfl⟩
            | true =>
              refine walk g5 ?_
              exact Roundq.normal (l.length - (i + 1)) (by omega) ⟨i + 1, by omega, rfl, kD.then kE, by simp [g2], by simp [g3], by simp, lt_step hlo (fun y hy => by rw [hx] at hy; injection hy with hy; subst hy; exact hh)⟩
          · obtain rfl : i = l.length := by omega
            have hall : ∀ x ∈ l, hasP b m x = true := fun x hx => by
              obtain ⟨j, hj⟩ := List.mem_iff_getElem?.1 hx
              exact hlo j (List.getElem?_eq_some_iff.1 hj).1 x hj
            rw [rest hab, decide_eq_true hall]
            refine walk (both g2 (both g3 (both g5 gA4))) ?_
            exact ⟨k3.then kD, rfl⟩
      · rcases (by cases b <;> simp : b = false ∨ b = true) with hb | hb
        · rw [fin (by rw [ha, hb]; rfl)]
          refine walk (both gA3 (both gB3 (both ha hb))) ?_
          exact ⟨k3, rfl⟩
        · have hab : (a && !b) = false := by rw [ha, hb]; rfl
          refine walk (both gA3 (both gB3 (both ha hb))) ?_
          refine Wq.loop (fun k e H' => ∃ i : Nat, i ≤ l.length ∧ k = l.length - i ∧ Keep H3 H' ∧ e 2 = .ptr (some (H.next, 0)) ∧ e 3 = .ptr (some (H.next + 1, 0)) ∧ e 5 = .int .i64 i ∧ ∀ j < i, ∀ x, l[j]? = some x → hasP b m x = true) l.length ?_ ?_
          · exact ⟨0, by omega, by omega, Upd.rfl, by simp, by simp, by simp, fun j hj => by omega⟩
          · rintro k e H' ⟨i, hi, rfl, kD, g2, g3, g5, hlo⟩
            have gA4 := (kD.get (by omega)).trans gA3
            have gB4 := (kD.get n3).trans gB3
            by_cases hlt : i < l.length
            · obtain ⟨x, hx⟩ := geti_lt hlt
              obtain ⟨bb, o, cc, t, w, mk, rfl, _, hb1, hb2, hb3, hb4⟩ := int_at (h.kept (k3.then kD)) hx
              refine walk (both g2 (both g3 (both g5 (both hlt gA4)))) ?_
              refine Wq.regionD [0, 1, 2, 3, 4, 5, 6, 7] (by kernel_rfl) ?_
              refine walk (both g2 (both g3 (both g5 (both hlt (both gA4 (both gB4 (both hb2 (both hb3 hb4)))))))) ?_
              refine (refHas11_ok (h'.kept (k3.then kD)) hM x).mono fun r H5 _ ⟨kE, ea⟩ => ?_
              subst ea
              cases hh : hasP b m x with
              | false =>
                have hno : ¬ ∀ x ∈ l, hasP b m x = true := fun hall => by rw [hall x (List.mem_of_getElem? hx)] at hh; cases hh
                rw [rest hab, decide_eq_false hno]
                refine walk none0 ?_
                exact ⟨(k3.then kD).then kE, rfl⟩
              | true =>
                refine walk g5 ?_
                exact Roundq.normal (l.length - (i + 1)) (by omega) ⟨i + 1, by omega, rfl, kD.then kE, by simp [g2], by simp [g3], by simp, lt_step hlo (fun y hy => by rw [hx] at hy; injection hy with hy; subst hy; exact hh)⟩
            · obtain rfl : i = l.length := by omega
              have hall : ∀ x ∈ l, hasP b m x = true := fun x hx => by
                obtain ⟨j, hj⟩ := List.mem_iff_getElem?.1 hx
                exact hlo j (List.getElem?_eq_some_iff.1 hj).1 x hj
              rw [rest hab, decide_eq_true hall]
              refine walk (both g2 (both g3 (both g5 gA4))) ?_
              exact ⟨k3.then kD, rfl⟩
end Go.Abs

/- Chapter 02: WhiteLimits. -/
namespace Go.Abs
open Go.Proofs
set_option maxRecDepth 100000
set_option linter.unusedVariables false
set_option linter.unusedSimpArgs false

/-- What comes of limiting. -/
def LR (a : Bool) (o l S : List Int) (e : Int) : Prop := ∃ T f, MR l T f ∧ ((f ≠ 0 ∧ S = [] ∧ e = 22) ∨ (f = 0 ∧ canP a o = false ∧ S = [] ∧ e = 22) ∨ (f = 0 ∧ canP a o = true ∧ subP false T a o = false ∧ S = [] ∧ e = 93) ∨ (f = 0 ∧ canP a o = true ∧ subP false T a o = true ∧ S = T ∧ e = 0))
theorem LR_one {a : Bool} {o l S S' : List Int} {e e' : Int} (h : LR a o l S e) (g : LR a o l S' e') : S = S' ∧ e = e' := by
  obtain ⟨T, f, hT, h⟩ := h
  obtain ⟨T', f', hT', g⟩ := g
  obtain ⟨rfl, rfl⟩ := MR_one hT hT'
  rcases h with ⟨h1, rfl, rfl⟩ | ⟨h1, h2, rfl, rfl⟩ | ⟨h1, h2, h3, rfl, rfl⟩ | ⟨h1, h2, h3, rfl, rfl⟩ <;> rcases g with ⟨g1, rfl, rfl⟩ | ⟨g1, g2, rfl, rfl⟩ | ⟨g1, g2, g3, rfl, rfl⟩ | ⟨g1, g2, g3, rfl, rfl⟩ <;> first | exact ⟨rfl, rfl⟩ | (exfalso; simp_all; done)
theorem LR_sub {a : Bool} {o l S : List Int} {e : Int} (h : LR a o l S e) : (e = 0 → subP false S a o = true) ∧ S.length ≤ 32 := by
  obtain ⟨T, f, hT, h⟩ := h
  have hl : f = 0 → T.length ≤ 32 := fun hf => by
    rcases hT with ⟨rfl, _⟩ | ⟨_, _, _, h⟩
    · cases hf
    · exact h
  rcases h with ⟨h1, rfl, rfl⟩ | ⟨h1, h2, rfl, rfl⟩ | ⟨h1, h2, h3, rfl, rfl⟩ | ⟨h1, h2, h3, rfl, rfl⟩
  · exact ⟨fun h => absurd h (by decide), by simp⟩
  · exact ⟨fun h => absurd h (by decide), by simp⟩
  · exact ⟨fun h => absurd h (by decide), by simp⟩
  · exact ⟨fun _ => h3, hl h1⟩
theorem MR_err {l S : List Int} {e : Int} (h : MR l S e) : e = 0 ∨ e = 22 := by
  rcases h with ⟨rfl, _⟩ | ⟨rfl, _⟩
  · exact .inr rfl
  · exact .inl rfl
theorem limit23_ok {H : Heap} {a : Bool} {v w : AV} {o l : List Int} (h : Is H v o) (h' : Is H w l) (hO : o.length ≤ 100000) (hL : l.length ≤ 100000) : Cl Tryd.prog pr02 23 [.agg [.bool a, v], w] H fun r H' => Keep H H' ∧ ∃ S e u, r = .tuple [.agg [.bool false, u], .int .i64 e] ∧ Is H' u S ∧ LR a o l S e := by
  have nil0 : ∀ H : Heap, Is H (.slice none 0 0 none) [] := fun H => Sl.nil
  obtain ⟨va, vc, vx, rfl, hvc, hvx⟩ := h.form
  obtain ⟨wa, wc, wx, rfl, hwc, hwx⟩ := h'.form
  have kB : Keep H ((H.push (.cells [.bool a, .slice va o.length vc vx] 24 true false)).push (.cells [.bool false, .slice none 0 0 none] 24 true false)) := (Upd.rfl.push _).push _
  have gA : ((H.push (.cells [.bool a, .slice va o.length vc vx] 24 true false)).push (.cells [.bool false, .slice none 0 0 none] 24 true false)).get H.next = some (.cells [.bool a, .slice va o.length vc vx] 24 true false) := by simp (disch := omega) [ineg]
  have gT : ((H.push (.cells [.bool a, .slice va o.length vc vx] 24 true false)).push (.cells [.bool false, .slice none 0 0 none] 24 true false)).get (H.next + 1) = some (.cells [.bool false, .slice none 0 0 none] 24 true false) := by simp (disch := omega) [ineg]
  have nT : H.next + 1 < ((H.push (.cells [.bool a, .slice va o.length vc vx] 24 true false)).push (.cells [.bool false, .slice none 0 0 none] 24 true false)).next := by simp
  have hoB := h.kept kB
  refine Cl.enter Tryd.func23 rfl rfl Tryd.ntmps23 (by simp) ?_
  refine walk none0 ?_
  generalize (H.push (.cells [.bool a, .slice va o.length vc vx] 24 true false)).push (.cells [.bool false, .slice none 0 0 none] 24 true false) = H1 at *
  refine (made38_ok (h'.kept kB) hL).mono fun r H2 _ ⟨kA, T, f, u, ea, iT, hT, hz⟩ => ?_
  subst ea
  obtain ⟨ua, uc, ux, rfl, huc, hux⟩ := iT.form
  have gA2 := (kA.get (by omega)).trans gA
  have gT2 := (kA.get nT).trans gT
  have n2 : H.next + 1 < H2.next := Nat.lt_of_lt_of_le nT kA.next
  have ho2 := hoB.kept kA
  refine walk none0 ?_
  have k3 := keep_new2 H2 (.cells [.bool false, .slice none 0 0 none] 24 true false) (.cells [.bool false, .slice ua T.length uc ux] 24 true false)
  have gN : ((H2.push (.cells [.bool false, .slice none 0 0 none] 24 true false)).set H2.next (.cells [.bool false, .slice ua T.length uc ux] 24 true false)).get H2.next = some (.cells [.bool false, .slice ua T.length uc ux] 24 true false) := Heap.get_set_same _ _ _
  have nN : H2.next < ((H2.push (.cells [.bool false, .slice none 0 0 none] 24 true false)).set H2.next (.cells [.bool false, .slice ua T.length uc ux] 24 true false)).next := by simp
  have gA3 := (k3.get (by omega)).trans gA2
  have gT3 := (k3.get n2).trans gT2
  have ho3 := ho2.kept k3
  have iT3 := iT.kept k3
  have kH3 := (kB.then kA).then k3
  generalize (H2.push (.cells [.bool false, .slice none 0 0 none] 24 true false)).set H2.next (.cells [.bool false, .slice ua T.length uc ux] 24 true false) = H3 at *
  have n3 : H.next + 1 < H3.next := by omega
  by_cases hf : f = 0
  · subst hf
    have hTl : T.length ≤ 100000 := by
      rcases hT with ⟨h, _⟩ | ⟨_, _, _, h⟩
      · cases h
      · omega
    refine walk gA3 ?_
    refine (can34_ok (a := a) ho3 hO).mono fun r H4 _ ⟨k4, ea⟩ => ?_
    subst ea
    have gA4 := (k4.get (by omega)).trans gA3
    have gT4 := (k4.get n3).trans gT3
    have gN4 := (k4.get nN).trans gN
    have n4 : H.next + 1 < H4.next := Nat.lt_of_lt_of_le n3 k4.next
    have nN4 : H2.next < H4.next := Nat.lt_of_lt_of_le nN k4.next
    cases hca : canP a o with
    | false =>
      refine walk gT4 ?_
      exact ⟨(kH3.then k4).set _ n4 (by omega), [], 22, _, rfl, nil0 _, T, 0, hT, .inr (.inl ⟨rfl, hca, rfl, rfl⟩)⟩
    | true =>
      refine walk (both gN4 gA4) ?_
      refine (subset40_ok (a := false) (b := a) (iT3.kept k4) (ho3.kept k4) hTl hO).mono fun r H5 _ ⟨k5, ea⟩ => ?_
      subst ea
      have gT5 := (k5.get n4).trans gT4
      have gN5 := (k5.get nN4).trans gN4
      have n5 : H.next + 1 < H5.next := Nat.lt_of_lt_of_le n4 k5.next
      cases hsb : subP false T a o with
      | false =>
        refine walk gT5 ?_
        exact ⟨((kH3.then k4).then k5).set _ n5 (by omega), [], 93, _, rfl, nil0 _, T, 0, hT, .inr (.inr (.inl ⟨rfl, hca, hsb, rfl, rfl⟩))⟩
      | true =>
        refine walk (both gT5 gN5) ?_
        exact ⟨((kH3.then k4).then k5).set _ n5 (by omega), T, 0, _, rfl, Sl.set ((iT3.kept k4).kept k5) _ (fun e => by have := hz _ e; omega), T, 0, hT, .inr (.inr (.inr ⟨rfl, hca, hsb, rfl, rfl⟩))⟩
  · have hf22 : f = 22 := (MR_err hT).resolve_left hf
    subst hf22
    refine walk gT3 ?_
    exact ⟨kH3.set _ n3 (by omega), [], 22, _, rfl, nil0 _, T, 22, hT, .inl ⟨hf, rfl, rfl⟩⟩
theorem refLimit24_ok {H : Heap} {a : Bool} {v w : AV} {o l : List Int} (h : Is H v o) (h' : Is H w l) (hO : o.length ≤ 100000) (hL : l.length ≤ 100000) : Cl Tryd.prog pr02 24 [.agg [.bool a, v], w] H fun r H' => Keep H H' ∧ ∃ S e u, r = .tuple [.agg [.bool false, u], .int .i64 e] ∧ Is H' u S ∧ LR a o l S e := by
  have nil0 : ∀ H : Heap, Is H (.slice none 0 0 none) [] := fun H => Sl.nil
  obtain ⟨va, vc, vx, rfl, hvc, hvx⟩ := h.form
  obtain ⟨wa, wc, wx, rfl, hwc, hwx⟩ := h'.form
  have kB : Keep H ((H.push (.cells [.bool a, .slice va o.length vc vx] 24 true false)).push (.cells [.bool false, .slice none 0 0 none] 24 true false)) := (Upd.rfl.push _).push _
  have gA : ((H.push (.cells [.bool a, .slice va o.length vc vx] 24 true false)).push (.cells [.bool false, .slice none 0 0 none] 24 true false)).get H.next = some (.cells [.bool a, .slice va o.length vc vx] 24 true false) := by simp (disch := omega) [ineg]
  have gT : ((H.push (.cells [.bool a, .slice va o.length vc vx] 24 true false)).push (.cells [.bool false, .slice none 0 0 none] 24 true false)).get (H.next + 1) = some (.cells [.bool false, .slice none 0 0 none] 24 true false) := by simp (disch := omega) [ineg]
  have nT : H.next + 1 < ((H.push (.cells [.bool a, .slice va o.length vc vx] 24 true false)).push (.cells [.bool false, .slice none 0 0 none] 24 true false)).next := by simp
  have hoB := h.kept kB
  refine Cl.enter Tryd.func24 rfl rfl Tryd.ntmps24 (by simp) ?_
  refine walk none0 ?_
  generalize (H.push (.cells [.bool a, .slice va o.length vc vx] 24 true false)).push (.cells [.bool false, .slice none 0 0 none] 24 true false) = H1 at *
  refine (refMake19_ok (h'.kept kB) hL).mono fun r H2 _ ⟨kA, T, f, u, ea, iT, hT, hz⟩ => ?_
  subst ea
  obtain ⟨ua, uc, ux, rfl, huc, hux⟩ := iT.form
  have gA2 := (kA.get (by omega)).trans gA
  have gT2 := (kA.get nT).trans gT
  have n2 : H.next + 1 < H2.next := Nat.lt_of_lt_of_le nT kA.next
  have ho2 := hoB.kept kA
  refine walk none0 ?_
  have k3 := keep_new2 H2 (.cells [.bool false, .slice none 0 0 none] 24 true false) (.cells [.bool false, .slice ua T.length uc ux] 24 true false)
  have gN : ((H2.push (.cells [.bool false, .slice none 0 0 none] 24 true false)).set H2.next (.cells [.bool false, .slice ua T.length uc ux] 24 true false)).get H2.next = some (.cells [.bool false, .slice ua T.length uc ux] 24 true false) := Heap.get_set_same _ _ _
  have nN : H2.next < ((H2.push (.cells [.bool false, .slice none 0 0 none] 24 true false)).set H2.next (.cells [.bool false, .slice ua T.length uc ux] 24 true false)).next := by simp
  have gA3 := (k3.get (by omega)).trans gA2
  have gT3 := (k3.get n2).trans gT2
  have ho3 := ho2.kept k3
  have iT3 := iT.kept k3
  have kH3 := (kB.then kA).then k3
  generalize (H2.push (.cells [.bool false, .slice none 0 0 none] 24 true false)).set H2.next (.cells [.bool false, .slice ua T.length uc ux] 24 true false) = H3 at *
  have n3 : H.next + 1 < H3.next := by omega
  by_cases hf : f = 0
  · subst hf
    have hTl : T.length ≤ 100000 := by
      rcases hT with ⟨h, _⟩ | ⟨_, _, _, h⟩
      · cases h
      · omega
    refine walk gA3 ?_
    refine (refCan15_ok (a := a) ho3 hO).mono fun r H4 _ ⟨k4, ea⟩ => ?_
    subst ea
    have gA4 := (k4.get (by omega)).trans gA3
    have gT4 := (k4.get n3).trans gT3
    have gN4 := (k4.get nN).trans gN
    have n4 : H.next + 1 < H4.next := Nat.lt_of_lt_of_le n3 k4.next
    have nN4 : H2.next < H4.next := Nat.lt_of_lt_of_le nN k4.next
    cases hca : canP a o with
    | false =>
      refine walk gT4 ?_
      exact ⟨(kH3.then k4).set _ n4 (by omega), [], 22, _, rfl, nil0 _, T, 0, hT, .inr (.inl ⟨rfl, hca, rfl, rfl⟩)⟩
    | true =>
      refine walk (both gN4 gA4) ?_
      refine (refSubset25_ok (a := false) (b := a) (iT3.kept k4) (ho3.kept k4) hTl hO).mono fun r H5 _ ⟨k5, ea⟩ => ?_
      subst ea
      have gT5 := (k5.get n4).trans gT4
      have gN5 := (k5.get nN4).trans gN4
      have n5 : H.next + 1 < H5.next := Nat.lt_of_lt_of_le n4 k5.next
      cases hsb : subP false T a o with
      | false =>
        refine walk gT5 ?_
        exact ⟨((kH3.then k4).then k5).set _ n5 (by omega), [], 93, _, rfl, nil0 _, T, 0, hT, .inr (.inr (.inl ⟨rfl, hca, hsb, rfl, rfl⟩))⟩
      | true =>
        refine walk (both gT5 gN5) ?_
        exact ⟨((kH3.then k4).then k5).set _ n5 (by omega), T, 0, _, rfl, Sl.set ((iT3.kept k4).kept k5) _ (fun e => by have := hz _ e; omega), T, 0, hT, .inr (.inr (.inr ⟨rfl, hca, hsb, rfl, rfl⟩))⟩
  · have hf22 : f = 22 := (MR_err hT).resolve_left hf
    subst hf22
    refine walk gT3 ?_
    exact ⟨kH3.set _ n3 (by omega), [], 22, _, rfl, nil0 _, T, 22, hT, .inl ⟨hf, rfl, rfl⟩⟩
theorem whiteLimits_main {H : Heap} {a : Bool} {v w : AV} {o l : List Int} (h : Is H v o) (h' : Is H w l) : Cl Tryd.prog pr02 7 [.agg [.bool a, v], w] H fun r _ => r = .bool true := by
  obtain ⟨va, vc, vx, rfl, hvc, hvx⟩ := h.form
  obtain ⟨wa, wc, wx, rfl, hwc, hwx⟩ := h'.form
  have kB : Keep H (H.push (.cells [.bool a, .slice va o.length vc vx] 24 true false)) := Upd.rfl.push _
  have gA : (H.push (.cells [.bool a, .slice va o.length vc vx] 24 true false)).get H.next = some (.cells [.bool a, .slice va o.length vc vx] 24 true false) := by simp
  have nA : H.next < (H.push (.cells [.bool a, .slice va o.length vc vx] 24 true false)).next := by simp
  have hl2 : (l.take 200).length ≤ 200 := by simp; omega
  have ho2 : (o.take 200).length ≤ 200 := by simp; omega
  have hlt := take_twice l
  have hot := take_twice o
  refine Cl.enter Tryd.func7 rfl rfl Tryd.ntmps7 (by simp) ?_
  refine walk none0 ?_
  generalize H.push (.cells [.bool a, .slice va o.length vc vx] 24 true false) = H1 at *
  refine (short9_ok (h.kept kB)).mono fun r' H2 _ ⟨u, ea, f2⟩ => ?_
  subst ea
  have gA2 := (f2.keep.get nA).trans gA
  have n2 : H.next < H2.next := Nat.lt_of_lt_of_le nA f2.keep.next
  refine walk none0 ?_
  refine (few17_ok (h'.kept (kB.then f2.keep))).mono fun r H3 _ f3 => ?_
  generalize l.take 200 = L at *
  generalize o.take 200 = O at *
  have i2 : Is H2 u O := f2.is
  have i3 : Is H3 r L := f3.is
  have hnew2 := f2.new
  have hnew3 := f3.new
  have i2' := i2.kept f3.keep
  obtain ⟨ua, uc, ux, rfl, huc, hux⟩ := i2.form
  obtain ⟨la, lc, lx, rfl, hlc, hlx⟩ := i3.form
  have gA3 := (f3.keep.get n2).trans gA2
  have n3 : H.next < H3.next := Nat.lt_of_lt_of_le n2 f3.keep.next
  refine walk gA3 ?_
  obtain ⟨H4, hH4⟩ : ∃ H4, H4 = H3.set H.next (.cells [.bool a, .slice ua O.length uc ux] 24 true false) := ⟨_, rfl⟩
  have gA4 : H4.get H.next = some (.cells [.bool a, .slice ua O.length uc ux] 24 true false) := by rw [hH4]; exact Heap.get_set_same _ _ _
  have n4 : H.next < H4.next := by rw [hH4]; simpa using n3
  have j1 : Is H4 (.slice la L.length lc lx) L := by rw [hH4]; exact Sl.set i3 _ (fun e => by have := hnew3 _ e; omega)
  have j2 : Is H4 (.slice ua O.length uc ux) O := by rw [hH4]; exact Sl.set i2' _ (fun e => by have := hnew2 _ e; omega)
  rw [← hH4]
  have hLs : L.length ≤ 100000 := by omega
  have hOs : O.length ≤ 100000 := by omega
  have hsh := short9_ok (a := a) j2
  rw [hot] at hsh
  refine hsh.mono fun r' H5 _ ⟨x5, ea, f5⟩ => ?_
  subst ea
  have gA5 := (f5.keep.get n4).trans gA4
  have n5 : H.next < H5.next := Nat.lt_of_lt_of_le n4 f5.keep.next
  refine walk none0 ?_
  have hfew := few17_ok (j1.kept f5.keep)
  rw [hlt] at hfew
  refine hfew.mono fun r H6 _ f6 => ?_
  have gA6 := (f6.keep.get n5).trans gA5
  have n6 : H.next < H6.next := Nat.lt_of_lt_of_le n5 f6.keep.next
  refine walk none0 ?_
  refine (limit23_ok (a := a) (f5.is.kept f6.keep) f6.is hOs hLs).mono fun r' H7 _ ⟨k7, S, e1, x, ea, is, hS⟩ => ?_
  subst ea
  obtain ⟨xa, xc, xx, rfl, hxc, hxx⟩ := is.form
  have gA7 := (k7.get n6).trans gA6
  have n7 : H.next < H7.next := Nat.lt_of_lt_of_le n6 k7.next
  refine walk none0 ?_
  have k8 := keep_new2 H7 (.cells [.bool false, .slice none 0 0 none] 24 true false) (.cells [.bool false, .slice xa S.length xc xx] 24 true false)
  have gB8 : ((H7.push (.cells [.bool false, .slice none 0 0 none] 24 true false)).set H7.next (.cells [.bool false, .slice xa S.length xc xx] 24 true false)).get H7.next = some (.cells [.bool false, .slice xa S.length xc xx] 24 true false) := Heap.get_set_same _ _ _
  have nB8 : H7.next < ((H7.push (.cells [.bool false, .slice none 0 0 none] 24 true false)).set H7.next (.cells [.bool false, .slice xa S.length xc xx] 24 true false)).next := by simp
  have gA8 := (k8.get n7).trans gA7
  have is8 := is.kept k8
  have k48 := ((f5.keep.then f6.keep).then k7).then k8
  generalize (H7.push (.cells [.bool false, .slice none 0 0 none] 24 true false)).set H7.next (.cells [.bool false, .slice xa S.length xc xx] 24 true false) = H8 at *
  have n8 : H.next < H8.next := by omega
  refine walk gA8 ?_
  refine (refLimit24_ok (a := a) (j2.kept k48) (j1.kept k48) hOs hLs).mono fun r' H9 _ ⟨k9, S', e2, y, ea, is', hS'⟩ => ?_
  subst ea
  obtain ⟨rfl, rfl⟩ := LR_one hS hS'
  obtain ⟨ya, yc, yx, rfl, hyc, hyx⟩ := is'.form
  have gA9 := (k9.get n8).trans gA8
  have gB9 := (k9.get nB8).trans gB8
  have n9 : H.next < H9.next := Nat.lt_of_lt_of_le n8 k9.next
  have nB9 : H7.next < H9.next := Nat.lt_of_lt_of_le nB8 k9.next
  refine walk none0 ?_
  have k10 := keep_new2 H9 (.cells [.bool false, .slice none 0 0 none] 24 true false) (.cells [.bool false, .slice ya S.length yc yx] 24 true false)
  have gC10 : ((H9.push (.cells [.bool false, .slice none 0 0 none] 24 true false)).set H9.next (.cells [.bool false, .slice ya S.length yc yx] 24 true false)).get H9.next = some (.cells [.bool false, .slice ya S.length yc yx] 24 true false) := Heap.get_set_same _ _ _
  have gA10 := (k10.get n9).trans gA9
  have gB10 := (k10.get nB9).trans gB9
  have is10 := (is8.kept k9).kept k10
  have is10' := is'.kept k10
  have k410 := (k48.then k9).then k10
  generalize (H9.push (.cells [.bool false, .slice none 0 0 none] 24 true false)).set H9.next (.cells [.bool false, .slice ya S.length yc yx] 24 true false) = H10 at *
  have n10 : H.next < H10.next := by have := k10.next; omega
  have nB10 : H7.next < H10.next := by have := k10.next; omega
  obtain ⟨hsub, hS32⟩ := LR_sub hS
  have hSl : S.length ≤ 100000 := by omega
  refine walk (both gB10 gC10) ?_
  refine (same16_ok is10 is10' hSl).mono fun r' H11 _ ⟨ea, k11⟩ => ?_
  subst ea
  have gA11 := (k11.get n10).trans gA10
  have gB11 := (k11.get nB10).trans gB10
  by_cases he : e1 = 0
  · have hs1 := hsub he
    subst he
    refine walk (both gA11 gB11) ?_
    refine (refSubset25_ok (a := false) (b := a) (is10.kept k11) (j2.kept (k410.then k11)) hSl hOs).mono fun r' H12 _ ⟨k12, ea⟩ => ?_
    subst ea
    rw [hs1]
    refine walk none0 ?_
    refine (lives_ok _).mono fun r H13 _ ⟨ea, eb⟩ => ?_
    subst ea; subst eb
    refine walk none0 ?_
    rfl
  · refine walk he ?_
    refine (lives_ok _).mono fun r H13 _ ⟨ea, eb⟩ => ?_
    subst ea; subst eb
    refine walk none0 ?_
    rfl
end Go.Abs

/- Chapter 02: lists that come in. -/
namespace Go.Abs
open Go.Proofs
set_option maxRecDepth 100000
set_option linter.unusedVariables false
set_option linter.unusedSimpArgs false

theorem nums_of : ∀ {n : Nat} {c : List AV}, c.length = n → (∀ i, i < n → ∃ x, (c.drop i).take 1 = [.int .i64 x] ∧ -9223372036854775808 ≤ x ∧ x < 9223372036854775808) → ∃ l : List Int, l.length = n ∧ c = ints l ∧ ∀ x ∈ l, -9223372036854775808 ≤ x ∧ x < 9223372036854775808
  | 0, c, hl, _ => ⟨[], rfl, List.eq_nil_of_length_eq_zero hl, by simp⟩
  | n + 1, [], hl, _ => by simp at hl
  | n + 1, a :: c, hl, h => by
    obtain ⟨x, hx, hb⟩ := h 0 (by omega)
    simp at hx
    obtain ⟨l, hl', e, hbl⟩ := nums_of (n := n) (c := c) (by simpa using hl) fun i hi => by
      obtain ⟨y, hy, hb⟩ := h (i + 1) (by omega)
      exact ⟨y, by simpa using hy, hb⟩
    refine ⟨x :: l, by simp [hl'], by rw [hx, e]; rfl, fun y hy => ?_⟩
    rcases List.mem_cons.1 hy with rfl | hy
    · exact hb
    · exact hbl y hy
theorem ints_of {H : Heap} {n : Nat} {v : AV} (h : Pic Tryd.prog H (n + 2) 22 [v]) : ∃ l : List Int, Is H v l ∧ ∀ x ∈ l, -9223372036854775808 ≤ x ∧ x < 9223372036854775808 := by
  obtain ⟨len, c, h1, h2, h3, h4⟩ := pic_slice (s := 1) Tryd.underlying22 (by kernel_rfl) h
  obtain ⟨l, hl, e, hb⟩ := nums_of (n := len) (c := c) (by have := h1.len; omega) fun i hi => by
    have := h4 i hi
    rw [Nat.mul_one] at this
    obtain ⟨x, hx, hw⟩ := pic_int Tryd.underlying3 this
    refine ⟨x, hx, ?_⟩
    simp [Lit.wf, IntKind.min, IntKind.max, IntKind.signed, IntKind.bits] at hw
    omega
  subst e
  exact ⟨l, by unfold Is; rw [hl]; exact h1, hb⟩
theorem white_of {H : Heap} {n : Nat} {a : AV} (h : PicV Tryd.prog H (n + 3) 24 a) : ∃ x v l, a = .agg [.bool x, v] ∧ Is H v l ∧ ∀ x ∈ l, -9223372036854775808 ≤ x ∧ x < 9223372036854775808 := by
  unfold PicV at h
  simp only [Tryd.underlying24] at h
  obtain ⟨cs, rfl, h⟩ := h
  unfold Pic at h
  simp only [Tryd.underlying24] at h
  obtain ⟨hl, hf⟩ := h
  have c4 : Tryd.prog.cellsOf 4 = 1 := by kernel_rfl
  have c22 : Tryd.prog.cellsOf 22 = 1 := by kernel_rfl
  have c24 : Tryd.prog.cellsOf 24 = 2 := by kernel_rfl
  rw [c24] at hl
  match cs, hl with
  | [a, c], _ =>
    simp [c4, c22] at hf
    obtain ⟨h0, h2⟩ := hf
    obtain ⟨x, e0⟩ := pic_bool Tryd.underlying4 h0
    obtain ⟨l, hl, hb⟩ := ints_of h2
    simp at e0
    subst e0
    exact ⟨x, c, l, rfl, hl, hb⟩
end Go.Abs

/- WhiteLimits: the row and its card. -/
namespace Go.Proofs.YtfebefhibgpmjaaDoor
open Go.ChangeShapes Go.WideShapes Go.ChangeAt Go.RowKit Go.Abs
set_option linter.unusedVariables false
set_option maxRecDepth 100000

theorem whiteLimitsMain (H : Heap) (xs : List AV) (hG : Tryd.prog.globals.size ≤ H.next) (hw : Wf H) (hL : Lain S02 H) (h : PicAll Tryd.prog H 4 [24, 22] xs) : CallsA Tryd.prog pr02 7 xs H fun v _ => v = .bool true := by
  obtain ⟨a0, r0, rfl, h0, a1, r1, rfl, h1, hend⟩ := h
  obtain rfl : r1 = [] := hend
  refine Cl.callsA primsRl hw ?_
  obtain ⟨x0, v0, l0, rfl, s0, b0⟩ := white_of (n := 1) h0
  obtain ⟨l1, s1, b1⟩ := ints_of (n := 2) (picV_slice Tryd.underlying22 h1)
  exact whiteLimits_main s0 s1

theorem whiteLimitsLifted (os : Os) (started : os.Started) (H : Type) (enc : TypeId × Value → H) :
    ReturnsInHanded {} Tryd.checked os 7 .any (fun w args => (Rows.whiteLimitsSpec.pre enc Tryd.prog Tryd.f7 [] false w args ∧ laidMetH Tryd.prog Rows.whiteLimitsRow.laid w) ∧ sizedMet enc Tryd.prog Tryd.f7 (OpenSpec.ofChange Rows.whiteLimitsSpec) false w args)
      (Rows.whiteLimitsSpec.post enc Tryd.prog Tryd.f7 false true false false) := by
  refine returnsInHanded_of_change_and (C := Tryd.checked) (X := fun w _ => laidMetH Tryd.prog Rows.whiteLimitsRow.laid w) (fun _ _ _ hh h => h.of_heap hh) own started (by kernel_rfl) Tryd.func7
    (ChangeSpec.witness_shaped (enc := enc) (C := Tryd.checked) (os := os) (X := fun w _ => laidMetH Tryd.prog Rows.whiteLimitsRow.laid w) false (World.laidAll Tryd.prog os Rows.whiteLimitsRow.laid) #[.agg #[.bool false, .slice none 0 0], .slice none 0 0] 8 (World.laidAll_os _ _ _)
      (World.shaped_of_ZipB (by kernel_rfl) (by kernel_rfl)) (by kernel_rfl) (by kernel_rfl) (by kernel_rfl)
      (by rw [MakeChecks.laidMetH_plain _ _ _ (by kernel_rfl)]; exact laidMet_laidAll _ (by kernel_rfl) (by kernel_rfl))) ?_
  intro W base args ds gs before hval hW hcnd _ hL _
  rw [MakeChecks.laidMetH_plain _ _ _ (by kernel_rfl)] at hL
  have ep : Tryd.f7.params.toList = [24, 22] := by kernel_rfl
  refine law_post laidOut rfl (fun ds h => ?_) (tb := 4) (by kernel_rfl) Tryd.underlying4 ?_ hW (fun p hA => ?_)
  · rw [ep] at h
    match ds, h with
    | [a0, a1], _ => rfl
  · rw [ep]
    intro t ht
    simp at ht
    rcases ht with rfl | rfl <;> exact ⟨by kernel_rfl, of_decide_eq_true (by kernel_rfl)⟩
  · refine law_calls_laid primsOk mixed plainN Tryd.func7 rfl (S := S02) (tabs_of (Rows.whiteLimitsRow.laid) W hL trivial) tabs_get (n := 4) (base := base) (ts := Tryd.f7.params.toList) ?_ ?_ ?_ hA
    · rw [ep]
      intro t ht
      simp at ht
      rcases ht with rfl | rfl <;> kernel_rfl
    · rw [ep]
      exact whiteLimitsMain
    · intro j t v h1 h2
      exact hval j t v (by simpa using h1) (by simpa using h2)

theorem whiteLimitsRow : Rows.WhiteLimitsSaid :=
  OpenClaim.holds_of_wide 7 Tryd.f7 rfl rfl rfl rfl rfl rfl rfl ⟨rfl, rfl, rfl, rfl, rfl⟩ rfl rfl rfl rfl rfl (by kernel_rfl) Tryd.func7 (by kernel_rfl)
    (of_decide_eq_true (by kernel_rfl)) (by unfold Func.isWrapper; first | (rw [if_pos (by decide +kernel)]; kernel_rfl) | (rw [if_neg (by decide +kernel)]; exact ⟨rfl, rfl⟩))
    (fun os started H enc _ => whiteLimitsLifted os started H enc)
theorem whiteLimits : Rows.WhiteLimitsCardSaid :=
  Claim7.holds_tied_plain_at .later [] [.data, .data, .data] true (true, "3f219ea87593acb0550e6c6be303ee0f0b10e7d34b0a5fd299bd936d5766cc94") false whiteLimitsRow (fun _ h => by cases h) (by kernel_rfl) (fun _ h => by cases h) whiteLimits_row_tie rfl ⟨rfl, rfl⟩ (by kernel_rfl) rfl
    (fun f fn hf hfn => by
      obtain rfl : f = 7 := Option.some.inj ((show Tryd.prog.funcNamed Rows.whiteLimitsRow.func = some 7 by kernel_rfl).symm.trans hf) |>.symm
      obtain rfl : fn = Tryd.f7 := (Option.some.inj (Tryd.func7.symm.trans hfn)).symm
      exact ⟨by kernel_rfl, fun j t ht => by
        rw [Tryd.params7] at ht
        have hm : t ∈ [24, 22] := by simpa using Array.mem_of_getElem? ht
        have hall : ([24, 22].all fun u => !Tryd.prog.wantsStandIn u) = true := by kernel_rfl
        exact (show Tryd.prog.wantsStandIn t = false by simpa using List.all_eq_true.1 hall t hm)⟩)
    (by kernel_rfl)
-- #print axioms whiteLimits
end Go.Proofs.YtfebefhibgpmjaaDoor
