/- Texts on this program, joined. -/
import Derived.Test.YtfebefhibgpmjaaDoorOwn05
import Derived.Test.YtfebefhibgpmjaaDoorKit06
import Derived.Test.YtfebefhibgpmjaaDoorKit04
import Derived.KernelRfl
import Derived.Test.YtfebefhibgpmjaaDoorProg
import Derived.Ground.NamesProg
import Derived.Shelf.Lays
import Derived.Test.YtfebefhibgpmjaaDoorRows
import Derived.Test.YtfebefhibgpmjaaDoorTie
import Derived.Test.YtfebefhibgpmjaaDoorCards
import Derived.WalkKit
import Derived.ProofKit
import Derived.OpenShut
import Derived.ShutString
import Derived.ChangeOld
import Derived.Below
import Derived.Lib.LaidU8
import Derived.PinnedBridge
import Derived.Lay
import Derived.LaidOnce
import Derived.SevenTiedAt

/- Chapter 02: WhiteMasks, walked. -/
namespace Go.Abs
open Go.Proofs
set_option maxRecDepth 100000
set_option linter.unusedVariables false
set_option linter.unusedSimpArgs false

def S02 : Stats := []
def base02 : Prims := memPrims [(36, joinAV)]
noncomputable def pr02 : Prims := relocPrims Tryd.prog base02 S02 [12]
theorem lain0 (H : Heap) : Lain S02 H := by intro p hp; cases hp
theorem run12 : ((acall Tryd.prog base02 60 12 [] (Heap.startS Tryd.prog.globals.size S02)).map fun r => sameAV r.1 (.bool true)) = some true := by kernel_rfl
theorem lives_ok (H : Heap) : Cl Tryd.prog pr02 12 [] H fun v H' => v = .bool true ∧ H' = H := by
  obtain ⟨n, H1, h⟩ := runs_on run12
  exact Cl.prim (v := .bool true) (H' := H) (g := relocP Tryd.prog base02 S02 12) rfl (relocP_flat rfl (lain0 H) rfl h) ⟨rfl, rfl⟩
theorem bit39_ok (n : Int) (i : Nat) (hi : i < 64) (H : Heap) : Cl Tryd.prog pr02 39 [.int .i64 n, .int .i64 i] H fun v H' => v = .bool (bitN n i) ∧ H' = H := by
  have hw : IntKind.u64.wrap (i : Int) = i := by simp [IntKind.wrap, IntKind.signed, IntKind.bits]; omega
  refine Cl.enter Tryd.func39 rfl rfl Tryd.ntmps39 (by simp) ?_
  refine walk hw ?_
  rw [fdiv_bit n i hi]
  exact ⟨rfl, rfl⟩
def offM (i : Nat) : Bool := decide (i < 3 ∨ 6 < i)
def maskBad (o m : Int) : Prop := ∃ i < 64, offM i = true ∧ (bitN o i || bitN m i) = true
def maskOver (o m : Int) : Prop := ∃ i < 64, bitN m i = true ∧ bitN o i = false
open Classical in
noncomputable def maskR (o m : Int) : Int × Int := if maskBad o m then (0, 22) else if maskOver o m then (0, 93) else (m, 0)
theorem mask120 : ((List.range 64).all fun i => ((120 % 2 ^ IntKind.i64.bits : Nat).testBit i) == !(offM i)) = true := by kernel_rfl
theorem bad_fact (o m : Int) : (IntKind.i64.wrap (((IntKind.i64.wrap (((o % 2 ^ IntKind.i64.bits).toNat ||| (m % 2 ^ IntKind.i64.bits).toNat : Nat) : Int) % 2 ^ IntKind.i64.bits).toNat &&& 2 ^ IntKind.i64.bits - 1 - 120 % 2 ^ IntKind.i64.bits : Nat) : Int) = 0) = ¬ maskBad o m := by
  have h := andNot_zero (IntKind.i64.wrap (((o % 2 ^ IntKind.i64.bits).toNat ||| (m % 2 ^ IntKind.i64.bits).toNat : Nat) : Int)) 120
  have e : ((120 : Int) % 2 ^ IntKind.i64.bits).toNat = 120 % 2 ^ IntKind.i64.bits := by decide
  rw [e] at h
  rw [h, eq_iff_iff]
  have hb : ∀ i < 64, bitN 120 i = !(offM i) := fun i hi => by
    unfold bitN
    rw [e]
    exact beq_iff_eq.1 (List.all_eq_true.1 mask120 i (List.mem_range.2 hi))
  unfold maskBad
  constructor
  · rintro h1 ⟨i, hi, h2, h3⟩
    have := h1 i hi (by rw [or_bit]; exact h3)
    rw [hb i hi, h2] at this
    cases this
  · intro h1 i hi h2
    rw [or_bit] at h2
    rw [hb i hi]
    cases h3 : offM i with
    | false => rfl
    | true => exact absurd ⟨i, hi, h3, h2⟩ h1
theorem over_fact (o m : Int) : (IntKind.i64.wrap (((m % 2 ^ IntKind.i64.bits).toNat &&& 2 ^ IntKind.i64.bits - 1 - (o % 2 ^ IntKind.i64.bits).toNat : Nat) : Int) = 0) = ¬ maskOver o m := by
  rw [andNot_zero, eq_iff_iff]
  unfold maskOver
  constructor
  · rintro h1 ⟨i, hi, h2, h3⟩
    have := h1 i hi h2
    rw [this] at h3
    cases h3
  · intro h1 i hi h2
    cases h3 : bitN o i with
    | true => rfl
    | false => exact absurd ⟨i, hi, h2, h3⟩ h1
theorem mask_ok (o m : Int) (H : Heap) : Cl Tryd.prog pr02 21 [.int .i64 o, .int .i64 m] H fun v H' => v = .tuple [.int .i64 (maskR o m).1, .int .i64 (maskR o m).2] ∧ H' = H := by
  have f1 := bad_fact o m
  have f2 := over_fact o m
  unfold maskR
  refine Cl.enter Tryd.func21 rfl rfl Tryd.ntmps21 (by simp) ?_
  by_cases h1 : maskBad o m
  · have f1 := f1.trans (eq_false (fun h => h h1))
    rw [if_pos h1]
    refine walk f1 ?_
    exact ⟨rfl, rfl⟩
  · have f1 := f1.trans (eq_true h1)
    rw [if_neg h1]
    by_cases h2 : maskOver o m
    · have f2 := f2.trans (eq_false (fun h => h h2))
      rw [if_pos h2]
      refine walk (both f1 f2) ?_
      exact ⟨rfl, rfl⟩
    · have f2 := f2.trans (eq_true h2)
      rw [if_neg h2]
      refine walk (both f1 f2) ?_
      exact ⟨rfl, rfl⟩
end Go.Abs

/- Which functions of the program are those of the library. -/
namespace Go.Proofs
set_option linter.unusedVariables false
open Go.Shelf
def Tryd.lays156_ren : Go.Shelf.Ren := ⟨fun | 156 => 36 | 165 => 43 | 166 => 44 | 169 => 45 | 240 => 54 | 241 => 55 | 276 => 64 | 277 => 65 | n => n, fun | 31 => 45 | 9 => 9 | 3 => 3 | 4 => 4 | 0 => 0 | 20 => 20 | 72 => 53 | 76 => 57 | 70 => 50 | 37 => 51 | 75 => 56 | 127 => 65 | 164 => 75 | 5 => 5 | 80 => 59 | n => n, fun | n => n⟩
theorem Tryd.lays156 : Go.Proofs.Lays.n156 Tryd.prog Tryd.lays156_ren := {
  mixed := by kernel_rfl
  f156 := Tryd.func36.trans (congrArg some (by kernel_rfl))
  f165 := Tryd.func43.trans (congrArg some (by kernel_rfl))
  f166 := Tryd.func44.trans (congrArg some (by kernel_rfl))
  f169 := Tryd.func45.trans (congrArg some (by kernel_rfl))
  f240 := Tryd.func54.trans (congrArg some (by kernel_rfl))
  f241 := Tryd.func55.trans (congrArg some (by kernel_rfl))
  f276 := Tryd.func64.trans (congrArg some (by kernel_rfl))
  f277 := Tryd.func65.trans (congrArg some (by kernel_rfl))
  t0 := Tryd.underlying0
  a0 := Tryd.isAgg0
  z0 := Tryd.sizeOf0
  v0 := Tryd.zeroValue0
  t3 := Tryd.underlying3
  a3 := Tryd.isAgg3
  z3 := Tryd.sizeOf3
  v3 := Tryd.zeroValue3
  t4 := Tryd.underlying4
  a4 := Tryd.isAgg4
  z4 := Tryd.sizeOf4
  v4 := Tryd.zeroValue4
  t9 := Tryd.underlying9
  a9 := Tryd.isAgg9
  z9 := Tryd.sizeOf9
  v9 := Tryd.zeroValue9
  t20 := Tryd.underlying20
  a20 := Tryd.isAgg20
  z20 := Tryd.sizeOf20
  v20 := Tryd.zeroValue20
  t31 := Tryd.underlying45
  a31 := Tryd.isAgg45
  z31 := Tryd.sizeOf45
  v31 := Tryd.zeroValue45
  t37 := Tryd.underlying51
  a37 := Tryd.isAgg51
  z37 := Tryd.sizeOf51
  v37 := Tryd.zeroValue51
  t70 := Tryd.underlying50
  a70 := Tryd.isAgg50
  z70 := Tryd.sizeOf50
  v70 := Tryd.zeroValue50
  t72 := Tryd.underlying53
  a72 := Tryd.isAgg53
  z72 := Tryd.sizeOf53
  v72 := Tryd.zeroValue53
  t75 := Tryd.underlying56
  a75 := Tryd.isAgg56
  z75 := Tryd.sizeOf56
  v75 := Tryd.zeroValue56
  t76 := Tryd.underlying57
  a76 := Tryd.isAgg57
  z76 := Tryd.sizeOf57
  v76 := Tryd.zeroValue57
  t127 := Tryd.underlying65
  a127 := Tryd.isAgg65
  z127 := Tryd.sizeOf65
  v127 := Tryd.zeroValue65
  t164 := Tryd.underlying75
  a164 := Tryd.isAgg75
  z164 := Tryd.sizeOf75
  v164 := Tryd.zeroValue75 }
end Go.Proofs

/- Chapter 02: what is told by hand is so. -/
namespace Go.Proofs
set_option linter.unusedVariables false
open Go.Shelf Go.Abs
theorem Tryd.mixed02 : Tryd.prog.follows .mixedOrders = true := by kernel_rfl
theorem Tryd.plain02 : plainNames Tryd.prog = true := by kernel_rfl
theorem Tryd.extra156 : Builder.Extra Tryd.prog Tryd.lays156_ren := {
  sizeBuilder := by kernel_rfl
  liesBuilder := by kernel_rfl
  t5 := Tryd.underlying5
  a5 := Tryd.isAgg5
  z5 := Tryd.sizeOf5
  v5 := Tryd.zeroValue5
  infoByte := by kernel_rfl
  cellsByte := by kernel_rfl
  sizeByte := by kernel_rfl
  neB5 := by decide }
theorem Tryd.says36 : MemSays Tryd.prog 36 joinAV := says_join Tryd.lays156 Tryd.extra156 (by kernel_rfl) Tryd.func36 (by kernel_rfl) (by kernel_rfl)
theorem Tryd.baseOk : PrimsOk Tryd.prog base02 := memPrims_ok (by intro p hp; simp at hp; subst hp; exact Tryd.says36)
theorem Tryd.baseRl : PrimsRl base02 := memPrims_rl _
end Go.Proofs

/- The seat's own facts for its rows. -/
namespace Go.Proofs.YtfebefhibgpmjaaDoor
open Go.ChangeShapes Go.WideShapes Go.ChangeAt Go.RowKit Go.Abs
set_option linter.unusedVariables false
set_option maxRecDepth 100000

theorem own : ownKnob Tryd.prog.godebug = none := by kernel_rfl
theorem laidOut : laidOutB Tryd.prog = true := by kernel_rfl
theorem mixed : Tryd.prog.follows .mixedOrders = true := Tryd.mixed02
theorem plainN : plainNames Tryd.prog = true := Tryd.plain02
theorem primsOk : PrimsOk Tryd.prog pr02 := relocPrims_ok mixed plainN Tryd.baseOk (by kernel_rfl) [12] (by intro f hf; simp at hf; subst hf; exact of_decide_eq_true (by kernel_rfl))
theorem primsRl : PrimsRl pr02 := relocPrims_rl Tryd.baseRl S02 [12]
theorem tabs_of (l : List (String × DataW Unit)) (W : World) (hL : laidMet Tryd.prog l W) (_ : True) : ∀ p ∈ S02, TabW Tryd.prog.globals.size W p := by
  intro p hp
  cases hp
theorem tabs_get : ∀ p ∈ S02, (Heap.startS Tryd.prog.globals.size S02).get p.1 = some p.2 := by
  intro p hp
  cases hp

end Go.Proofs.YtfebefhibgpmjaaDoor

/- Chapter 02: WhiteMasks, the reference walked. -/
namespace Go.Abs
open Go.Proofs
set_option maxRecDepth 100000
set_option linter.unusedVariables false
set_option linter.unusedSimpArgs false

theorem lt_step {p : Nat → Prop} {i : Nat} (h : ∀ j < i, p j) (hi : p i) : ∀ j < i + 1, p j := fun j hj => by
  rcases Nat.lt_or_ge j i with h' | h'
  · exact h j h'
  · obtain rfl : j = i := by omega
    exact hi
theorem refMask_ok (o m : Int) (H : Heap) : Cl Tryd.prog pr02 22 [.int .i64 o, .int .i64 m] H fun v H' => v = .tuple [.int .i64 (maskR o m).1, .int .i64 (maskR o m).2] ∧ H' = H := by
  refine Cl.enter Tryd.func22 rfl rfl Tryd.ntmps22 (by simp) ?_
  refine walk none0 ?_
  refine Wq.loop (fun k e H' => ∃ i : Nat, i ≤ 64 ∧ k = 64 - i ∧ H' = H ∧ e 0 = .int .i64 o ∧ e 1 = .int .i64 m ∧ e 6 = .int .i64 i ∧ ∀ j < i, ¬ (offM j = true ∧ (bitN o j || bitN m j) = true)) 64 ?_ ?_
  · exact ⟨0, by omega, by omega, rfl, by simp, by simp, by simp, fun j hj => by omega⟩
  · rintro k e H' ⟨i, hi, rfl, rfl, e0, e1, e6, hlo⟩
    by_cases hlt : i < 64
    · have hltI : (i : Int) < 64 := by omega
      have bad : offM i = true → (bitN o i || bitN m i) = true → maskR o m = (0, 22) := fun h1 h2 => by
        unfold maskR; rw [if_pos ⟨i, hlt, h1, h2⟩]
      by_cases h3 : i < 3
      · have h3 : (i : Int) < 3 := by omega
        have h6 : True := trivial
        have hoff : offM i = true := decide_eq_true (.inl (by omega))
        refine walk (both e0 (both e1 (both e6 (both hltI (both h3 h6))))) ?_
        refine (bit39_ok o i hlt H').mono fun v H1 _ ⟨ea, eb⟩ => ?_
        subst ea; subst eb
        cases hb : bitN o i with
        | true =>
          have hr := bad hoff (by rw [hb]; rfl)
          rw [hr]
          refine walk (both e0 (both e1 e6)) ?_
          exact ⟨rfl, rfl⟩
        | false =>
          refine walk (both e0 (both e1 e6)) ?_
          refine (bit39_ok m i hlt H1).mono fun v H2 _ ⟨ea, eb⟩ => ?_
          subst ea; subst eb
          cases hb2 : bitN m i with
          | true =>
            have hr := bad hoff (by rw [hb, hb2]; rfl)
            rw [hr]
            refine walk (both e0 (both e1 e6)) ?_
            exact ⟨rfl, rfl⟩
          | false =>
            refine walk (both e0 (both e1 e6)) ?_
            exact Roundq.normal (64 - (i + 1)) (by omega) ⟨i + 1, by omega, rfl, rfl, by simp [e0], by simp [e1], by simp, lt_step hlo (fun h => by rw [hb, hb2] at h; exact absurd h.2 (by simp))⟩
      · have h3 : ¬ (i : Int) < 3 := by omega
        by_cases h6 : 6 < i
        · have h6 : 6 < (i : Int) := by omega
          have hoff : offM i = true := decide_eq_true (.inr (by omega))
          refine walk (both e0 (both e1 (both e6 (both hltI (both h3 h6))))) ?_
          refine (bit39_ok o i hlt H').mono fun v H1 _ ⟨ea, eb⟩ => ?_
          subst ea; subst eb
          cases hb : bitN o i with
          | true =>
            have hr := bad hoff (by rw [hb]; rfl)
            rw [hr]
            refine walk (both e0 (both e1 e6)) ?_
            exact ⟨rfl, rfl⟩
          | false =>
            refine walk (both e0 (both e1 e6)) ?_
            refine (bit39_ok m i hlt H1).mono fun v H2 _ ⟨ea, eb⟩ => ?_
            subst ea; subst eb
            cases hb2 : bitN m i with
            | true =>
              have hr := bad hoff (by rw [hb, hb2]; rfl)
              rw [hr]
              refine walk (both e0 (both e1 e6)) ?_
              exact ⟨rfl, rfl⟩
            | false =>
              refine walk (both e0 (both e1 e6)) ?_
              exact Roundq.normal (64 - (i + 1)) (by omega) ⟨i + 1, by omega, rfl, rfl, by simp [e0], by simp [e1], by simp, lt_step hlo (fun h => by rw [hb, hb2] at h; exact absurd h.2 (by simp))⟩
        · have h6 : ¬ 6 < (i : Int) := by omega
          have hoff : offM i = false := decide_eq_false (by omega)
          refine walk (both e0 (both e1 (both e6 (both hltI (both h3 h6))))) ?_
          exact Roundq.normal (64 - (i + 1)) (by omega) ⟨i + 1, by omega, rfl, rfl, by simp [e0], by simp [e1], by simp, lt_step hlo (fun h => by rw [hoff] at h; exact absurd h.1 (by simp))⟩
    · obtain rfl : i = 64 := by omega
      have hnb : ¬ maskBad o m := fun ⟨i, hi, h⟩ => hlo i hi h
      refine walk (both e0 (both e1 e6)) ?_
      refine Wq.loop (fun k e H2 => ∃ i : Nat, i ≤ 64 ∧ k = 64 - i ∧ H2 = H' ∧ e 0 = .int .i64 o ∧ e 1 = .int .i64 m ∧ e 7 = .int .i64 i ∧ ∀ j < i, ¬ (bitN m j = true ∧ bitN o j = false)) 64 ?_ ?_
      · exact ⟨0, by omega, by omega, rfl, by simp [e0], by simp [e1], by simp, fun j hj => by omega⟩
      · rintro k e' H2 ⟨i, hi, rfl, rfl, q0, q1, q7, hlo2⟩
        by_cases hlt : i < 64
        · have hltI : (i : Int) < 64 := by omega
          refine walk (both q0 (both q1 (both q7 hltI))) ?_
          refine (bit39_ok m i hlt H2).mono fun v H3 _ ⟨ea, eb⟩ => ?_
          subst ea; subst eb
          cases hb : bitN m i with
          | false =>
            refine walk (both q0 (both q1 q7)) ?_
            exact Roundq.normal (64 - (i + 1)) (by omega) ⟨i + 1, by omega, rfl, rfl, by simp [q0], by simp [q1], by simp, lt_step hlo2 (fun h => by rw [hb] at h; exact absurd h.1 (by simp))⟩
          | true =>
            refine walk (both q0 (both q1 q7)) ?_
            refine (bit39_ok o i hlt H3).mono fun v H4 _ ⟨ea, eb⟩ => ?_
            subst ea; subst eb
            cases hb2 : bitN o i with
            | true =>
              refine walk (both q0 (both q1 q7)) ?_
              exact Roundq.normal (64 - (i + 1)) (by omega) ⟨i + 1, by omega, rfl, rfl, by simp [q0], by simp [q1], by simp, lt_step hlo2 (fun h => by rw [hb2] at h; exact absurd h.2 (by simp))⟩
            | false =>
              have hr : maskR o m = (0, 93) := by unfold maskR; rw [if_neg hnb, if_pos ⟨i, hlt, hb, hb2⟩]
              rw [hr]
              refine walk (both q0 (both q1 q7)) ?_
              exact ⟨rfl, rfl⟩
        · obtain rfl : i = 64 := by omega
          have hno : ¬ maskOver o m := fun ⟨i, hi, h⟩ => hlo2 i hi h
          have hr : maskR o m = (m, 0) := by unfold maskR; rw [if_neg hnb, if_neg hno]
          rw [hr]
          refine walk (both q0 (both q1 q7)) ?_
          exact ⟨rfl, rfl⟩
theorem whiteMasks_main (o m : Int) (H : Heap) : Cl Tryd.prog pr02 6 [.int .i64 o, .int .i64 m] H fun v _ => v = .bool true := by
  refine Cl.enter Tryd.func6 rfl rfl Tryd.ntmps6 (by simp) ?_
  refine walk none0 ?_
  refine (mask_ok o m H).mono fun v H1 _ ⟨ea, eb⟩ => ?_
  subst ea; subst eb
  refine walk none0 ?_
  refine (refMask_ok o m H1).mono fun v H2 _ ⟨ea, eb⟩ => ?_
  subst ea; subst eb
  have f2 := over_fact o m
  by_cases h1 : maskBad o m
  · have hr : maskR o m = (0, 22) := by unfold maskR; rw [if_pos h1]
    rw [hr]
    refine walk none0 ?_
    refine (lives_ok H2).mono fun v H3 _ ⟨ea, eb⟩ => ?_
    subst ea; subst eb
    refine walk none0 ?_
    rfl
  · by_cases h2 : maskOver o m
    · have hr : maskR o m = (0, 93) := by unfold maskR; rw [if_neg h1, if_pos h2]
      rw [hr]
      refine walk none0 ?_
      refine (lives_ok H2).mono fun v H3 _ ⟨ea, eb⟩ => ?_
      subst ea; subst eb
      refine walk none0 ?_
      rfl
    · have hr : maskR o m = (m, 0) := by unfold maskR; rw [if_neg h1, if_neg h2]
      have f2 := f2.trans (eq_true h2)
      rw [hr]
      refine walk f2 ?_
      refine (lives_ok H2).mono fun v H3 _ ⟨ea, eb⟩ => ?_
      subst ea; subst eb
      refine walk none0 ?_
      rfl
end Go.Abs
