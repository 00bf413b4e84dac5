/- Texts on this program, joined. -/
import Derived.Test.YtneaadcnpebfeaaDoorOwn11
import Derived.Test.YtneaadcnpebfeaaDoorKit12
import Derived.Test.YtneaadcnpebfeaaDoorKit04
import Derived.KernelRfl
import Derived.Test.YtneaadcnpebfeaaDoorRows
import Derived.Test.YtneaadcnpebfeaaDoorTie
import Derived.Test.YtneaadcnpebfeaaDoorCards
import Derived.WalkKit
import Derived.ProofKit
import Derived.OpenShut
import Derived.ShutString
import Derived.ChangeOld
import Derived.Below
import Derived.Lib.LaidU8
import Derived.PinnedBridge
import Derived.Lay
import Derived.LaidOnce
import Derived.SevenTiedAt

/- Chapter 01: subsets, walked. -/
namespace Go.Abs
open Go.Proofs
set_option maxRecDepth 100000
set_option linter.unusedVariables false
set_option linter.unusedSimpArgs false

noncomputable def pr01 : Prims := relocPrims Tryd.prog base01 S01 [13]
theorem wrap32 {n : Nat} (h : n < 4294967296) : IntKind.u32.wrap (n : Int) = n := by simp [IntKind.wrap, IntKind.signed, IntKind.bits]; omega
theorem bits32 : IntKind.u32.bits = 32 := rfl
theorem bv_lt (a : BitVec 32) : a.toNat < 4294967296 := a.isLt
theorem u32_andnot (a b : BitVec 32) : IntKind.u32.wrap ((a.toNat % 2 ^ IntKind.u32.bits &&& 2 ^ IntKind.u32.bits - 1 - b.toNat % 2 ^ IntKind.u32.bits : Nat) : Int) = ((a &&& ~~~b).toNat : Nat) := by
  rw [bits32, Nat.mod_eq_of_lt a.isLt, Nat.mod_eq_of_lt b.isLt]
  have : (a &&& ~~~b).toNat = a.toNat &&& 2 ^ 32 - 1 - b.toNat := by rw [BitVec.toNat_and, BitVec.toNat_not]
  rw [← this]
  exact wrap32 (bv_lt _)
theorem u32_and (a b : BitVec 32) : IntKind.u32.wrap ((a.toNat % 2 ^ IntKind.u32.bits &&& b.toNat % 2 ^ IntKind.u32.bits : Nat) : Int) = ((a &&& b).toNat : Nat) := by
  rw [bits32, Nat.mod_eq_of_lt a.isLt, Nat.mod_eq_of_lt b.isLt, ← BitVec.toNat_and]
  exact wrap32 (bv_lt _)
theorem u32_or (a b : BitVec 32) : IntKind.u32.wrap ((a.toNat % 2 ^ IntKind.u32.bits ||| b.toNat % 2 ^ IntKind.u32.bits : Nat) : Int) = ((a ||| b).toNat : Nat) := by
  rw [bits32, Nat.mod_eq_of_lt a.isLt, Nat.mod_eq_of_lt b.isLt, ← BitVec.toNat_or]
  exact wrap32 (bv_lt _)
theorem subset_ok (a b : BitVec 32) (H : Heap) : Cl Tryd.prog pr01 11 [.int .u32 a.toNat, .int .u32 b.toNat] H fun v H' => v = .bool (decide (a &&& ~~~b = 0#32)) ∧ H' = H := by
  refine Cl.enter Tryd.func11 rfl rfl Tryd.ntmps11 (by simp) ?_
  refine walk none0 ?_
  rw [u32_andnot]
  refine ⟨?_, rfl⟩
  congr 2
  simp [BitVec.toNat_eq]
theorem and_ok (a b : BitVec 32) (H : Heap) : Cl Tryd.prog pr01 18 [.int .u32 a.toNat, .int .u32 b.toNat] H fun v H' => v = .int .u32 (a &&& b).toNat ∧ H' = H := by
  refine Cl.enter Tryd.func18 rfl rfl Tryd.ntmps18 (by simp) ?_
  refine walk none0 ?_
  rw [u32_and]
  exact ⟨rfl, rfl⟩
theorem or_ok (a b : BitVec 32) (H : Heap) : Cl Tryd.prog pr01 20 [.int .u32 a.toNat, .int .u32 b.toNat] H fun v H' => v = .int .u32 (a ||| b).toNat ∧ H' = H := by
  refine Cl.enter Tryd.func20 rfl rfl Tryd.ntmps20 (by simp) ?_
  refine walk none0 ?_
  rw [u32_or]
  exact ⟨rfl, rfl⟩
theorem minus_ok (a b : BitVec 32) (H : Heap) : Cl Tryd.prog pr01 21 [.int .u32 a.toNat, .int .u32 b.toNat] H fun v H' => v = .int .u32 (a &&& ~~~b).toNat ∧ H' = H := by
  refine Cl.enter Tryd.func21 rfl rfl Tryd.ntmps21 (by simp) ?_
  refine walk none0 ?_
  rw [u32_andnot]
  exact ⟨rfl, rfl⟩
def bitA (a : BitVec 32) (i : Nat) : Bool := a.getLsbD i
theorem bitA_eq (a : BitVec 32) (i : Nat) : bitA a i = a.getLsbD i := rfl
theorem has_ok (a : BitVec 32) (i : Nat) (hi : i < 32) (H : Heap) : Cl Tryd.prog pr01 32 [.int .u32 a.toNat, .int .i64 i] H fun v H' => v = .bool (bitA a i) ∧ H' = H := by
  have hw : IntKind.u64.wrap (i : Int) = i := by simp [IntKind.wrap, IntKind.signed, IntKind.bits]; omega
  refine Cl.enter Tryd.func32 rfl rfl Tryd.ntmps32 (by simp) ?_
  refine walk hw ?_
  refine ⟨?_, rfl⟩
  rw [bits32, Nat.min_eq_left (by omega), bitA_eq]
  have h1 : ((a.toNat : Int).fdiv (2 ^ i)) = ((a.toNat / 2 ^ i : Nat) : Int) := by
    rw [Int.fdiv_eq_ediv_of_nonneg _ (Int.pow_nonneg (by omega))]
    simp
  rw [h1, Int.tmod_eq_emod_of_nonneg (Int.natCast_nonneg _)]
  simp only [BitVec.getLsbD, Nat.testBit_eq_decide_div_mod_eq]
  congr 2
  simp only [eq_iff_iff]
  omega
theorem refSubset_ok (a b : BitVec 32) (H : Heap) : Cl Tryd.prog pr01 12 [.int .u32 a.toNat, .int .u32 b.toNat] H fun v H' => v = .bool (decide (a &&& ~~~b = 0#32)) ∧ H' = H := by
  refine Cl.enter Tryd.func12 rfl rfl Tryd.ntmps12 (by simp) ?_
  refine walk none0 ?_
  refine Wq.loop (fun m e H' => ∃ i : Nat, i ≤ 32 ∧ m = 32 - i ∧ H' = H ∧ e 0 = .int .u32 a.toNat ∧ e 1 = .int .u32 b.toNat ∧ e 5 = .int .i64 i ∧ ∀ k, k < i → bitA a k = true → bitA b k = true) 32 ?_ ?_
  · exact ⟨0, by omega, by omega, rfl, by simp, by simp, by simp, fun k hk => by omega⟩
  · rintro m e H' ⟨i, hi, rfl, rfl, g0, g1, g5, hlo⟩
    by_cases hlt : i < 32
    · refine walk (both g0 (both g1 (both g5 hlt))) ?_
      refine (has_ok a i hlt H').mono fun v H1 _ ⟨e1, e2⟩ => ?_
      subst e1; subst e2
      by_cases ha : bitA a i = true
      · refine walk (both g0 (both g1 (both g5 ha))) ?_
        refine (has_ok b i hlt H1).mono fun v H2 _ ⟨e1, e2⟩ => ?_
        subst e1; subst e2
        by_cases hb : bitA b i = true
        · refine walk (both g0 (both g1 (both g5 (both ha hb)))) ?_
          refine Roundq.normal (32 - (i + 1)) (by omega) ⟨i + 1, by omega, rfl, rfl, by simp [g0], by simp [g1], by simp, fun k hk hak => ?_⟩
          rcases Nat.lt_or_ge k i with h | h
          · exact hlo k h hak
          · obtain rfl : k = i := by omega
            exact hb
        · rw [Bool.not_eq_true] at hb
          refine walk (both g0 (both g1 (both g5 (both ha hb)))) ?_
          refine ⟨?_, rfl⟩
          have : ¬ (a &&& ~~~b = 0#32) := by
            intro h
            have h2 : (a &&& ~~~b).getLsbD i = (0#32).getLsbD i := by rw [h]
            rw [bitA_eq] at ha hb
            rw [BitVec.getLsbD_and, BitVec.getLsbD_not, ha, hb, BitVec.getLsbD_zero] at h2
            simp [hlt] at h2
          rw [decide_eq_false this]
      · rw [Bool.not_eq_true] at ha
        refine walk (both g0 (both g1 (both g5 ha))) ?_
        refine Roundq.normal (32 - (i + 1)) (by omega) ⟨i + 1, by omega, rfl, rfl, by simp [g0], by simp [g1], by simp, fun k hk hak => ?_⟩
        rcases Nat.lt_or_ge k i with h | h
        · exact hlo k h hak
        · obtain rfl : k = i := by omega
          rw [ha] at hak; cases hak
    · refine walk (both g0 (both g1 (both g5 hlt))) ?_
      refine ⟨?_, rfl⟩
      have : a &&& ~~~b = 0#32 := by
        apply BitVec.eq_of_getLsbD_eq
        intro k hk
        simp only [BitVec.getLsbD_and, BitVec.getLsbD_not, BitVec.getLsbD_zero, hk, decide_true, Bool.true_and]
        cases hak : a.getLsbD k with
        | false => rfl
        | true =>
          have := hlo k (by omega) hak
          rw [bitA_eq] at this
          rw [this]; rfl
      rw [decide_eq_true this]
end Go.Abs

/- Chapter 01: RightsSubsets, RightsMeets, walked. -/
namespace Go.Abs
open Go.Proofs
set_option maxRecDepth 100000
set_option linter.unusedVariables false
set_option linter.unusedSimpArgs false

theorem run13 : ((acall Tryd.prog base01 60 13 [] (Heap.startS Tryd.prog.globals.size S01)).map fun r => sameAV r.1 (.bool true)) = some true := by kernel_rfl
theorem lives_ok {H : Heap} (hL : Lain S01 H) : Cl Tryd.prog pr01 13 [] H fun v H' => v = .bool true ∧ H' = H := by
  obtain ⟨n, H1, h⟩ := runs_on run13
  exact Cl.prim (v := .bool true) (H' := H) (g := relocP Tryd.prog base01 S01 13) rfl (relocP_flat rfl hL rfl h) ⟨rfl, rfl⟩
theorem rightsSubsets_main (a b : BitVec 32) {H : Heap} (hL : Lain S01 H) : Cl Tryd.prog pr01 3 [.int .u32 a.toNat, .int .u32 b.toNat] H fun v _ => v = .bool true := by
  refine Cl.enter Tryd.func3 rfl rfl Tryd.ntmps3 (by simp) ?_
  refine walk none0 ?_
  refine (subset_ok a b H).mono fun v H1 _ ⟨e1, e2⟩ => ?_
  subst e1; subst e2
  refine walk none0 ?_
  refine (refSubset_ok a b H1).mono fun v H1 _ ⟨e1, e2⟩ => ?_
  subst e1; subst e2
  generalize decide (a &&& ~~~b = 0#32) = r
  refine walk none0 ?_
  refine (lives_ok hL).mono fun v H1 _ ⟨e1, e2⟩ => ?_
  subst e1; subst e2
  refine walk none0 ?_
  rfl
theorem meets_law (a b c : BitVec 32) : (a &&& b) &&& ~~~a = 0#32 ∧ (a &&& b) &&& ~~~b = 0#32 ∧ (decide (c &&& ~~~(a &&& b) = 0#32) = (decide (c &&& ~~~a = 0#32) && decide (c &&& ~~~b = 0#32))) ∧ (a &&& ~~~b) ||| (a &&& b) = a := by
  have h0 : ∀ x : BitVec 32, x = 0#32 ↔ ∀ k, k < 32 → x.getLsbD k = false := by
    intro x
    constructor
    · rintro rfl k hk; simp
    · intro h; apply BitVec.eq_of_getLsbD_eq; intro k hk; rw [h k hk]; simp
  refine ⟨?_, ?_, ?_, ?_⟩
  · rw [h0]; intro k hk; simp only [BitVec.getLsbD_and, BitVec.getLsbD_not, hk, decide_true, Bool.true_and]; cases a.getLsbD k <;> cases b.getLsbD k <;> rfl
  · rw [h0]; intro k hk; simp only [BitVec.getLsbD_and, BitVec.getLsbD_not, hk, decide_true, Bool.true_and]; cases a.getLsbD k <;> cases b.getLsbD k <;> rfl
  · rw [← Bool.decide_and]
    congr 1
    rw [eq_iff_iff, h0, h0, h0]
    constructor
    · intro h
      refine ⟨fun k hk => ?_, fun k hk => ?_⟩
      · have := h k hk
        simp only [BitVec.getLsbD_and, BitVec.getLsbD_not, hk, decide_true, Bool.true_and] at this ⊢
        revert this
        cases a.getLsbD k <;> cases b.getLsbD k <;> cases c.getLsbD k <;> simp
      · have := h k hk
        simp only [BitVec.getLsbD_and, BitVec.getLsbD_not, hk, decide_true, Bool.true_and] at this ⊢
        revert this
        cases a.getLsbD k <;> cases b.getLsbD k <;> cases c.getLsbD k <;> simp
    · rintro ⟨h1, h2⟩ k hk
      have h1 := h1 k hk
      have h2 := h2 k hk
      simp only [BitVec.getLsbD_and, BitVec.getLsbD_not, hk, decide_true, Bool.true_and] at h1 h2 ⊢
      revert h1 h2
      cases a.getLsbD k <;> cases b.getLsbD k <;> cases c.getLsbD k <;> simp
  · apply BitVec.eq_of_getLsbD_eq
    intro k hk
    simp only [BitVec.getLsbD_or, BitVec.getLsbD_and, BitVec.getLsbD_not, hk, decide_true, Bool.true_and]
    cases a.getLsbD k <;> cases b.getLsbD k <;> rfl
theorem rightsMeets_main (a b c : BitVec 32) {H : Heap} (hL : Lain S01 H) : Cl Tryd.prog pr01 7 [.int .u32 a.toNat, .int .u32 b.toNat, .int .u32 c.toNat] H fun v _ => v = .bool true := by
  obtain ⟨h1, h2, h3, h4⟩ := meets_law a b c
  refine Cl.enter Tryd.func7 rfl rfl Tryd.ntmps7 (by simp) ?_
  refine walk none0 ?_
  refine (and_ok a b H).mono fun v H1 _ ⟨e1, e2⟩ => ?_
  subst e1; subst e2
  generalize a &&& b = m at *
  refine walk none0 ?_
  refine (subset_ok m a H1).mono fun v H1 _ ⟨e1, e2⟩ => ?_
  subst e1; subst e2
  rw [decide_eq_true h1]
  refine walk none0 ?_
  refine (subset_ok m b H1).mono fun v H1 _ ⟨e1, e2⟩ => ?_
  subst e1; subst e2
  rw [decide_eq_true h2]
  refine walk none0 ?_
  refine (subset_ok c m H1).mono fun v H1 _ ⟨e1, e2⟩ => ?_
  subst e1; subst e2
  rw [h3]
  refine walk none0 ?_
  refine (subset_ok c a H1).mono fun v H1 _ ⟨e1, e2⟩ => ?_
  subst e1; subst e2
  generalize hq : decide (c &&& ~~~b = 0#32) = q at *
  generalize decide (c &&& ~~~a = 0#32) = p at *
  cases p with
  | true =>
    refine walk none0 ?_
    refine (subset_ok c b H1).mono fun v H1 _ ⟨e1, e2⟩ => ?_
    subst e1; subst e2
    rw [hq]
    refine walk none0 ?_
    refine (minus_ok a b H1).mono fun v H1 _ ⟨e1, e2⟩ => ?_
    subst e1; subst e2
    generalize a &&& ~~~b = d at *
    refine walk none0 ?_
    refine (or_ok d m H1).mono fun v H1 _ ⟨e1, e2⟩ => ?_
    subst e1; subst e2
    rw [h4]
    refine walk none0 ?_
    refine (lives_ok hL).mono fun v H1 _ ⟨e1, e2⟩ => ?_
    subst e1; subst e2
    refine walk none0 ?_
    rfl
  | false =>
    refine walk none0 ?_
    refine (minus_ok a b H1).mono fun v H1 _ ⟨e1, e2⟩ => ?_
    subst e1; subst e2
    generalize a &&& ~~~b = d at *
    refine walk none0 ?_
    refine (or_ok d m H1).mono fun v H1 _ ⟨e1, e2⟩ => ?_
    subst e1; subst e2
    rw [h4]
    refine walk none0 ?_
    refine (lives_ok hL).mono fun v H1 _ ⟨e1, e2⟩ => ?_
    subst e1; subst e2
    refine walk none0 ?_
    rfl
end Go.Abs

/- Chapter 01: sets that come in. -/
namespace Go.Abs
open Go.Proofs
set_option linter.unusedVariables false
theorem picV_u32 {P : Program} {H : Heap} {n t : Nat} {a : AV} (hu : P.underlying t = some (.int .u32)) (h : PicV P H (n + 1) t a) : ∃ z : BitVec 32, a = .int .u32 z.toNat := by
  obtain ⟨z, e, w⟩ := picV_one hu h
  have hw : 0 ≤ z ∧ z < 4294967296 := by simp [Lit.wf, IntKind.min, IntKind.max, IntKind.signed, IntKind.bits] at w; omega
  refine ⟨BitVec.ofNat 32 z.toNat, ?_⟩
  rw [e, BitVec.toNat_ofNat, Nat.mod_eq_of_lt (by omega)]
  congr 1
  omega
end Go.Abs

/- The seat's own facts for its rows. -/
namespace Go.Proofs.YtneaadcnpebfeaaDoor
open Go.ChangeShapes Go.WideShapes Go.ChangeAt Go.RowKit Go.Abs
set_option linter.unusedVariables false
set_option maxRecDepth 100000

theorem own : ownKnob Tryd.prog.godebug = none := by kernel_rfl
theorem laidOut : laidOutB Tryd.prog = true := by kernel_rfl
theorem mixed : Tryd.prog.follows .mixedOrders = true := Tryd.mixed01
theorem plainN : plainNames Tryd.prog = true := Tryd.plain01
theorem primsOk : PrimsOk Tryd.prog pr01 := relocPrims_ok mixed plainN Tryd.baseOk (by kernel_rfl) [13] (by intro f hf; simp at hf; subst hf; exact of_decide_eq_true (by kernel_rfl))
theorem primsRl : PrimsRl pr01 := relocPrims_rl Tryd.baseRl S01 [13]
theorem tabs_of (l : List (String × DataW Unit)) (W : World) (hL : laidMet Tryd.prog l W) (hm : ("strings.asciiSpace", Rows.laid_strings_asciiSpace) ∈ l) : ∀ p ∈ S01, TabW Tryd.prog.globals.size W p := by
  intro p hp
  simp [S01] at hp
  subst hp
  have hd : (Rows.laid_strings_asciiSpace : DataW Unit) = Lib.tabData .u8 Lib.asciiSpaceTab := by kernel_rfl
  have hr := Lib.laidMet.reads hL hm
  have hg : Tryd.prog.globalNamed "strings.asciiSpace" = some 0 := by kernel_rfl
  have htab : Lib.TabIs Tryd.prog W "strings.asciiSpace" .u8 Lib.asciiSpaceTab := tabIs_of_reads hg (by kernel_rfl) Tryd.underlying74 Tryd.underlying5 (by kernel_rfl) (by kernel_rfl) hd hr
  have he : spaceC = Lib.asciiSpaceTab.map fun z => .int .u8 z := by simp [spaceC, Lib.asciiSpaceTab, List.map_map, Function.comp_def]
  rw [he]
  exact tabW_of htab hg (of_decide_eq_true (by kernel_rfl)) (by simp [Lib.asciiSpaceTab])
theorem tabs_get : ∀ p ∈ S01, (Heap.startS Tryd.prog.globals.size S01).get p.1 = some p.2 := by
  intro p hp
  simp [S01] at hp
  subst hp
  exact Tree.get_set _ _ _ _ |>.trans (by simp)

end Go.Proofs.YtneaadcnpebfeaaDoor

/- RightsMeets: the row and its card. -/
namespace Go.Proofs.YtneaadcnpebfeaaDoor
open Go.ChangeShapes Go.WideShapes Go.ChangeAt Go.RowKit Go.Abs
set_option linter.unusedVariables false
set_option maxRecDepth 100000

theorem rightsMeetsMain (H : Heap) (xs : List AV) (hG : Tryd.prog.globals.size ≤ H.next) (hw : Wf H) (hL : Lain S01 H) (h : PicAll Tryd.prog H 2 [23, 23, 23] xs) : CallsA Tryd.prog pr01 7 xs H fun v _ => v = .bool true := by
  obtain ⟨a0, r0, rfl, h0, a1, r1, rfl, h1, a2, r2, rfl, h2, hend⟩ := h
  obtain rfl : r2 = [] := hend
  refine Cl.callsA primsRl hw ?_
  obtain ⟨a, rfl⟩ := picV_u32 Tryd.underlying23 h0
  obtain ⟨b, rfl⟩ := picV_u32 Tryd.underlying23 h1
  obtain ⟨c, rfl⟩ := picV_u32 Tryd.underlying23 h2
  exact rightsMeets_main a b c hL

theorem rightsMeetsLifted (os : Os) (started : os.Started) (H : Type) (enc : TypeId × Value → H) :
    ReturnsInHanded {} Tryd.checked os 7 .any (fun w args => (Rows.rightsMeetsSpec.pre enc Tryd.prog Tryd.f7 [] false w args ∧ laidMetH Tryd.prog Rows.rightsMeetsRow.laid w) ∧ sizedMet enc Tryd.prog Tryd.f7 (OpenSpec.ofChange Rows.rightsMeetsSpec) false w args)
      (Rows.rightsMeetsSpec.post enc Tryd.prog Tryd.f7 false true false false) := by
  refine returnsInHanded_of_change_and (C := Tryd.checked) (X := fun w _ => laidMetH Tryd.prog Rows.rightsMeetsRow.laid w) (fun _ _ _ hh h => h.of_heap hh) own started (by kernel_rfl) Tryd.func7
    (ChangeSpec.witness_shaped (enc := enc) (C := Tryd.checked) (os := os) (X := fun w _ => laidMetH Tryd.prog Rows.rightsMeetsRow.laid w) false (World.laidAll Tryd.prog os Rows.rightsMeetsRow.laid) #[.int .u32 0, .int .u32 0, .int .u32 0] 8 (World.laidAll_os _ _ _)
      (World.shaped_of_ZipB (by kernel_rfl) (by kernel_rfl)) (by kernel_rfl) (by kernel_rfl) (by kernel_rfl)
      (by rw [MakeChecks.laidMetH_plain _ _ _ (by kernel_rfl)]; exact laidMet_laidAll _ (by kernel_rfl) (by kernel_rfl))) ?_
  intro W base args ds gs before hval hW hcnd _ hL _
  rw [MakeChecks.laidMetH_plain _ _ _ (by kernel_rfl)] at hL
  have ep : Tryd.f7.params.toList = [23, 23, 23] := by kernel_rfl
  refine law_post laidOut rfl (fun ds h => ?_) (tb := 4) (by kernel_rfl) Tryd.underlying4 ?_ hW (fun p hA => ?_)
  · rw [ep] at h
    match ds, h with
    | [a0, a1, a2], _ => rfl
  · rw [ep]
    intro t ht
    simp at ht
    subst ht; exact ⟨by kernel_rfl, of_decide_eq_true (by kernel_rfl)⟩
  · refine law_calls_laid primsOk mixed plainN Tryd.func7 rfl (S := S01) (tabs_of (Rows.rightsMeetsRow.laid) W hL (by simp [Rows.rightsMeetsRow])) tabs_get (n := 2) (base := base) (ts := Tryd.f7.params.toList) ?_ ?_ ?_ hA
    · rw [ep]
      intro t ht
      simp at ht
      subst ht; kernel_rfl
    · rw [ep]
      exact rightsMeetsMain
    · intro j t v h1 h2
      exact hval j t v (by simpa using h1) (by simpa using h2)

theorem rightsMeetsRow : Rows.RightsMeetsSaid :=
  OpenClaim.holds_of_wide 7 Tryd.f7 rfl rfl rfl rfl rfl rfl rfl ⟨rfl, rfl, rfl, rfl, rfl⟩ rfl rfl rfl rfl rfl (by kernel_rfl) Tryd.func7 (by kernel_rfl)
    (of_decide_eq_true (by kernel_rfl)) (by unfold Func.isWrapper; first | (rw [if_pos (by decide +kernel)]; kernel_rfl) | (rw [if_neg (by decide +kernel)]; exact ⟨rfl, rfl⟩))
    (fun os started H enc _ => rightsMeetsLifted os started H enc)
theorem rightsMeets : Rows.RightsMeetsCardSaid :=
  Claim7.holds_tied_plain_at .later [] [.data, .listed, .data, .pinned] true (true, "3c558693262e81124e8e6753285b3fd0b157d0ea282c00bc061785a35e975268") false rightsMeetsRow (fun _ h => by cases h) (by kernel_rfl) (fun _ h => by cases h) rightsMeets_row_tie rfl ⟨rfl, rfl⟩ (by kernel_rfl) rfl
    (fun f fn hf hfn => by
      obtain rfl : f = 7 := Option.some.inj ((show Tryd.prog.funcNamed Rows.rightsMeetsRow.func = some 7 by kernel_rfl).symm.trans hf) |>.symm
      obtain rfl : fn = Tryd.f7 := (Option.some.inj (Tryd.func7.symm.trans hfn)).symm
      exact ⟨by kernel_rfl, fun j t ht => by
        rw [Tryd.params7] at ht
        have hm : t ∈ [23, 23, 23] := by simpa using Array.mem_of_getElem? ht
        have hall : ([23, 23, 23].all fun u => !Tryd.prog.wantsStandIn u) = true := by kernel_rfl
        exact (show Tryd.prog.wantsStandIn t = false by simpa using List.all_eq_true.1 hall t hm)⟩)
    (by kernel_rfl)
-- #print axioms rightsMeets
end Go.Proofs.YtneaadcnpebfeaaDoor
