/- Texts on this program, joined. -/
import Derived.Test.YtneaadcnpebfeaaDoorOwn11
import Derived.Test.YtneaadcnpebfeaaDoorKit12
import Derived.Test.YtneaadcnpebfeaaDoorKit04
import Derived.KernelRfl
import Derived.Test.YtneaadcnpebfeaaDoorRows
import Derived.Test.YtneaadcnpebfeaaDoorTie
import Derived.Test.YtneaadcnpebfeaaDoorCards
import Derived.WalkKit
import Derived.ProofKit
import Derived.OpenShut
import Derived.ShutString
import Derived.ChangeOld
import Derived.Below
import Derived.Lib.LaidU8
import Derived.PinnedBridge
import Derived.Lay
import Derived.LaidOnce
import Derived.SevenTiedAt

/- Chapter 01: subsets, walked. -/
namespace Go.Abs
open Go.Proofs
set_option maxRecDepth 100000
set_option linter.unusedVariables false
set_option linter.unusedSimpArgs false

noncomputable def pr01 : Prims := relocPrims Tryd.prog base01 S01 [13]
theorem wrap32 {n : Nat} (h : n < 4294967296) : IntKind.u32.wrap (n : Int) = n := by simp [IntKind.wrap, IntKind.signed, IntKind.bits]; omega
theorem bits32 : IntKind.u32.bits = 32 := rfl
theorem bv_lt (a : BitVec 32) : a.toNat < 4294967296 := a.isLt
theorem u32_andnot (a b : BitVec 32) : IntKind.u32.wrap ((a.toNat % 2 ^ IntKind.u32.bits &&& 2 ^ IntKind.u32.bits - 1 - b.toNat % 2 ^ IntKind.u32.bits : Nat) : Int) = ((a &&& ~~~b).toNat : Nat) := by
  rw [bits32, Nat.mod_eq_of_lt a.isLt, Nat.mod_eq_of_lt b.isLt]
  have : (a &&& ~~~b).toNat = a.toNat &&& 2 ^ 32 - 1 - b.toNat := by rw [BitVec.toNat_and, BitVec.toNat_not]
  rw [← this]
  exact wrap32 (bv_lt _)
theorem u32_and (a b : BitVec 32) : IntKind.u32.wrap ((a.toNat % 2 ^ IntKind.u32.bits &&& b.toNat % 2 ^ IntKind.u32.bits : Nat) : Int) = ((a &&& b).toNat : Nat) := by
  rw [bits32, Nat.mod_eq_of_lt a.isLt, Nat.mod_eq_of_lt b.isLt, ← BitVec.toNat_and]
  exact wrap32 (bv_lt _)
theorem u32_or (a b : BitVec 32) : IntKind.u32.wrap ((a.toNat % 2 ^ IntKind.u32.bits ||| b.toNat % 2 ^ IntKind.u32.bits : Nat) : Int) = ((a ||| b).toNat : Nat) := by
  rw [bits32, Nat.mod_eq_of_lt a.isLt, Nat.mod_eq_of_lt b.isLt, ← BitVec.toNat_or]
  exact wrap32 (bv_lt _)
theorem subset_ok (a b : BitVec 32) (H : Heap) : Cl Tryd.prog pr01 11 [.int .u32 a.toNat, .int .u32 b.toNat] H fun v H' => v = .bool (decide (a &&& ~~~b = 0#32)) ∧ H' = H := by
  refine Cl.enter Tryd.func11 rfl rfl Tryd.ntmps11 (by simp) ?_
  refine walk none0 ?_
  rw [u32_andnot]
  refine ⟨?_, rfl⟩
  congr 2
  simp [BitVec.toNat_eq]
theorem and_ok (a b : BitVec 32) (H : Heap) : Cl Tryd.prog pr01 18 [.int .u32 a.toNat, .int .u32 b.toNat] H fun v H' => v = .int .u32 (a &&& b).toNat ∧ H' = H := by
  refine Cl.enter Tryd.func18 rfl rfl Tryd.ntmps18 (by simp) ?_
  refine walk none0 ?_
  rw [u32_and]
  exact ⟨rfl, rfl⟩
theorem or_ok (a b : BitVec 32) (H : Heap) : Cl Tryd.prog pr01 20 [.int .u32 a.toNat, .int .u32 b.toNat] H fun v H' => v = .int .u32 (a ||| b).toNat ∧ H' = H := by
  refine Cl.enter Tryd.func20 rfl rfl Tryd.ntmps20 (by simp) ?_
  refine walk none0 ?_
  rw [u32_or]
  exact ⟨rfl, rfl⟩
theorem minus_ok (a b : BitVec 32) (H : Heap) : Cl Tryd.prog pr01 21 [.int .u32 a.toNat, .int .u32 b.toNat] H fun v H' => v = .int .u32 (a &&& ~~~b).toNat ∧ H' = H := by
  refine Cl.enter Tryd.func21 rfl rfl Tryd.ntmps21 (by simp) ?_
  refine walk none0 ?_
  rw [u32_andnot]
  exact ⟨rfl, rfl⟩
def bitA (a : BitVec 32) (i : Nat) : Bool := a.getLsbD i
theorem bitA_eq (a : BitVec 32) (i : Nat) : bitA a i = a.getLsbD i := rfl
theorem has_ok (a : BitVec 32) (i : Nat) (hi : i < 32) (H : Heap) : Cl Tryd.prog pr01 32 [.int .u32 a.toNat, .int .i64 i] H fun v H' => v = .bool (bitA a i) ∧ H' = H := by
  have hw : IntKind.u64.wrap (i : Int) = i := by simp [IntKind.wrap, IntKind.signed, IntKind.bits]; omega
  refine Cl.enter Tryd.func32 rfl rfl Tryd.ntmps32 (by simp) ?_
  refine walk hw ?_
  refine ⟨?_, rfl⟩
  rw [bits32, Nat.min_eq_left (by omega), bitA_eq]
  have h1 : ((a.toNat : Int).fdiv (2 ^ i)) = ((a.toNat / 2 ^ i : Nat) : Int) := by
    rw [Int.fdiv_eq_ediv_of_nonneg _ (Int.pow_nonneg (by omega))]
    simp
  rw [h1, Int.tmod_eq_emod_of_nonneg (Int.natCast_nonneg _)]
  simp only [BitVec.getLsbD, Nat.testBit_eq_decide_div_mod_eq]
  congr 2
  simp only [eq_iff_iff]
  omega
theorem refSubset_ok (a b : BitVec 32) (H : Heap) : Cl Tryd.prog pr01 12 [.int .u32 a.toNat, .int .u32 b.toNat] H fun v H' => v = .bool (decide (a &&& ~~~b = 0#32)) ∧ H' = H := by
  refine Cl.enter Tryd.func12 rfl rfl Tryd.ntmps12 (by simp) ?_
  refine walk none0 ?_
  refine Wq.loop (fun m e H' => ∃ i : Nat, i ≤ 32 ∧ m = 32 - i ∧ H' = H ∧ e 0 = .int .u32 a.toNat ∧ e 1 = .int .u32 b.toNat ∧ e 5 = .int .i64 i ∧ ∀ k, k < i → bitA a k = true → bitA b k = true) 32 ?_ ?_
  · exact ⟨0, by omega, by omega, rfl, by simp, by simp, by simp, fun k hk => by omega⟩
  · rintro m e H' ⟨i, hi, rfl, rfl, g0, g1, g5, hlo⟩
    by_cases hlt : i < 32
    · refine walk (both g0 (both g1 (both g5 hlt))) ?_
      refine (has_ok a i hlt H').mono fun v H1 _ ⟨e1, e2⟩ => ?_
      subst e1; subst e2
      by_cases ha : bitA a i = true
      · refine walk (both g0 (both g1 (both g5 ha))) ?_
        refine (has_ok b i hlt H1).mono fun v H2 _ ⟨e1, e2⟩ => ?_
        subst e1; subst e2
        by_cases hb : bitA b i = true
        · refine walk (both g0 (both g1 (both g5 (both ha hb)))) ?_
          refine Roundq.normal (32 - (i + 1)) (by omega) ⟨i + 1, by omega, rfl, rfl, by simp [g0], by simp [g1], by simp, fun k hk hak => ?_⟩
          rcases Nat.lt_or_ge k i with h | h
          · exact hlo k h hak
          · obtain rfl : k = i := by omega
            exact hb
        · rw [Bool.not_eq_true] at hb
          refine walk (both g0 (both g1 (both g5 (both ha hb)))) ?_
          refine ⟨?_, rfl⟩
          have : ¬ (a &&& ~~~b = 0#32) := by
            intro h
            have h2 : (a &&& ~~~b).getLsbD i = (0#32).getLsbD i := by rw [h]
            rw [bitA_eq] at ha hb
            rw [BitVec.getLsbD_and, BitVec.getLsbD_not, ha, hb, BitVec.getLsbD_zero] at h2
            simp [hlt] at h2
          rw [decide_eq_false this]
      · rw [Bool.not_eq_true] at ha
        refine walk (both g0 (both g1 (both g5 ha))) ?_
        refine Roundq.normal (32 - (i + 1)) (by omega) ⟨i + 1, by omega, rfl, rfl, by simp [g0], by simp [g1], by simp, fun k hk hak => ?_⟩
        rcases Nat.lt_or_ge k i with h | h
        · exact hlo k h hak
        · obtain rfl : k = i := by omega
          rw [ha] at hak; cases hak
    · refine walk (both g0 (both g1 (both g5 hlt))) ?_
      refine ⟨?_, rfl⟩
      have : a &&& ~~~b = 0#32 := by
        apply BitVec.eq_of_getLsbD_eq
        intro k hk
        simp only [BitVec.getLsbD_and, BitVec.getLsbD_not, BitVec.getLsbD_zero, hk, decide_true, Bool.true_and]
        cases hak : a.getLsbD k with
        | false => rfl
        | true =>
          have := hlo k (by omega) hak
          rw [bitA_eq] at this
          rw [this]; rfl
      rw [decide_eq_true this]
end Go.Abs

/- Chapter 01: RightsSubsets, RightsMeets, walked. -/
namespace Go.Abs
open Go.Proofs
set_option maxRecDepth 100000
set_option linter.unusedVariables false
set_option linter.unusedSimpArgs false

theorem run13 : ((acall Tryd.prog base01 60 13 [] (Heap.startS Tryd.prog.globals.size S01)).map fun r => sameAV r.1 (.bool true)) = some true := by kernel_rfl
theorem lives_ok {H : Heap} (hL : Lain S01 H) : Cl Tryd.prog pr01 13 [] H fun v H' => v = .bool true ∧ H' = H := by
  obtain ⟨n, H1, h⟩ := runs_on run13
  exact Cl.prim (v := .bool true) (H' := H) (g := relocP Tryd.prog base01 S01 13) rfl (relocP_flat rfl hL rfl h) ⟨rfl, rfl⟩
theorem rightsSubsets_main (a b : BitVec 32) {H : Heap} (hL : Lain S01 H) : Cl Tryd.prog pr01 3 [.int .u32 a.toNat, .int .u32 b.toNat] H fun v _ => v = .bool true := by
  refine Cl.enter Tryd.func3 rfl rfl Tryd.ntmps3 (by simp) ?_
  refine walk none0 ?_
  refine (subset_ok a b H).mono fun v H1 _ ⟨e1, e2⟩ => ?_
  subst e1; subst e2
  refine walk none0 ?_
  refine (refSubset_ok a b H1).mono fun v H1 _ ⟨e1, e2⟩ => ?_
  subst e1; subst e2
  generalize decide (a &&& ~~~b = 0#32) = r
  refine walk none0 ?_
  refine (lives_ok hL).mono fun v H1 _ ⟨e1, e2⟩ => ?_
  subst e1; subst e2
  refine walk none0 ?_
  rfl
theorem meets_law (a b c : BitVec 32) : (a &&& b) &&& ~~~a = 0#32 ∧ (a &&& b) &&& ~~~b = 0#32 ∧ (decide (c &&& ~~~(a &&& b) = 0#32) = (decide (c &&& ~~~a = 0#32) && decide (c &&& ~~~b = 0#32))) ∧ (a &&& ~~~b) ||| (a &&& b) = a := by
  have h0 : ∀ x : BitVec 32, x = 0#32 ↔ ∀ k, k < 32 → x.getLsbD k = false := by
    intro x
    constructor
    · rintro rfl k hk; simp
    · intro h; apply BitVec.eq_of_getLsbD_eq; intro k hk; rw [h k hk]; simp
  refine ⟨?_, ?_, ?_, ?_⟩
  · rw [h0]; intro k hk; simp only [BitVec.getLsbD_and, BitVec.getLsbD_not, hk, decide_true, Bool.true_and]; cases a.getLsbD k <;> cases b.getLsbD k <;> rfl
  · rw [h0]; intro k hk; simp only [BitVec.getLsbD_and, BitVec.getLsbD_not, hk, decide_true, Bool.true_and]; cases a.getLsbD k <;> cases b.getLsbD k <;> rfl
  · rw [← Bool.decide_and]
    congr 1
    rw [eq_iff_iff, h0, h0, h0]
    constructor
    · intro h
      refine ⟨fun k hk => ?_, fun k hk => ?_⟩
      · have := h k hk
        simp only [BitVec.getLsbD_and, BitVec.getLsbD_not, hk, decide_true, Bool.true_and] at this ⊢
        revert this
        cases a.getLsbD k <;> cases b.getLsbD k <;> cases c.getLsbD k <;> simp
      · have := h k hk
        simp only [BitVec.getLsbD_and, BitVec.getLsbD_not, hk, decide_true, Bool.true_and] at this ⊢
        revert this
        cases a.getLsbD k <;> cases b.getLsbD k <;> cases c.getLsbD k <;> simp
    · rintro ⟨h1, h2⟩ k hk
      have h1 := h1 k hk
      have h2 := h2 k hk
      simp only [BitVec.getLsbD_and, BitVec.getLsbD_not, hk, decide_true, Bool.true_and] at h1 h2 ⊢
      revert h1 h2
      cases a.getLsbD k <;> cases b.getLsbD k <;> cases c.getLsbD k <;> simp
  · apply BitVec.eq_of_getLsbD_eq
    intro k hk
    simp only [BitVec.getLsbD_or, BitVec.getLsbD_and, BitVec.getLsbD_not, hk, decide_true, Bool.true_and]
    cases a.getLsbD k <;> cases b.getLsbD k <;> rfl
theorem rightsMeets_main (a b c : BitVec 32) {H : Heap} (hL : Lain S01 H) : Cl Tryd.prog pr01 7 [.int .u32 a.toNat, .int .u32 b.toNat, .int .u32 c.toNat] H fun v _ => v = .bool true := by
  obtain ⟨h1, h2, h3, h4⟩ := meets_law a b c
  refine Cl.enter Tryd.func7 rfl rfl Tryd.ntmps7 (by simp) ?_
  refine walk none0 ?_
  refine (and_ok a b H).mono fun v H1 _ ⟨e1, e2⟩ => ?_
  subst e1; subst e2
  generalize a &&& b = m at *
  refine walk none0 ?_
  refine (subset_ok m a H1).mono fun v H1 _ ⟨e1, e2⟩ => ?_
  subst e1; subst e2
  rw [decide_eq_true h1]
  refine walk none0 ?_
  refine (subset_ok m b H1).mono fun v H1 _ ⟨e1, e2⟩ => ?_
  subst e1; subst e2
  rw [decide_eq_true h2]
  refine walk none0 ?_
  refine (subset_ok c m H1).mono fun v H1 _ ⟨e1, e2⟩ => ?_
  subst e1; subst e2
  rw [h3]
  refine walk none0 ?_
  refine (subset_ok c a H1).mono fun v H1 _ ⟨e1, e2⟩ => ?_
  subst e1; subst e2
  generalize hq : decide (c &&& ~~~b = 0#32) = q at *
  generalize decide (c &&& ~~~a = 0#32) = p at *
  cases p with
  | true =>
    refine walk none0 ?_
    refine (subset_ok c b H1).mono fun v H1 _ ⟨e1, e2⟩ => ?_
    subst e1; subst e2
    rw [hq]
    refine walk none0 ?_
    refine (minus_ok a b H1).mono fun v H1 _ ⟨e1, e2⟩ => ?_
    subst e1; subst e2
    generalize a &&& ~~~b = d at *
    refine walk none0 ?_
    refine (or_ok d m H1).mono fun v H1 _ ⟨e1, e2⟩ => ?_
    subst e1; subst e2
    rw [h4]
    refine walk none0 ?_
    refine (lives_ok hL).mono fun v H1 _ ⟨e1, e2⟩ => ?_
    subst e1; subst e2
    refine walk none0 ?_
    rfl
  | false =>
    refine walk none0 ?_
    refine (minus_ok a b H1).mono fun v H1 _ ⟨e1, e2⟩ => ?_
    subst e1; subst e2
    generalize a &&& ~~~b = d at *
    refine walk none0 ?_
    refine (or_ok d m H1).mono fun v H1 _ ⟨e1, e2⟩ => ?_
    subst e1; subst e2
    rw [h4]
    refine walk none0 ?_
    refine (lives_ok hL).mono fun v H1 _ ⟨e1, e2⟩ => ?_
    subst e1; subst e2
    refine walk none0 ?_
    rfl
end Go.Abs

/- Chapter 01: sets that come in. -/
namespace Go.Abs
open Go.Proofs
set_option linter.unusedVariables false
theorem picV_u32 {P : Program} {H : Heap} {n t : Nat} {a : AV} (hu : P.underlying t = some (.int .u32)) (h : PicV P H (n + 1) t a) : ∃ z : BitVec 32, a = .int .u32 z.toNat := by
  obtain ⟨z, e, w⟩ := picV_one hu h
  have hw : 0 ≤ z ∧ z < 4294967296 := by simp [Lit.wf, IntKind.min, IntKind.max, IntKind.signed, IntKind.bits] at w; omega
  refine ⟨BitVec.ofNat 32 z.toNat, ?_⟩
  rw [e, BitVec.toNat_ofNat, Nat.mod_eq_of_lt (by omega)]
  congr 1
  omega
end Go.Abs

/- The seat's own facts for its rows. -/
namespace Go.Proofs.YtneaadcnpebfeaaDoor
open Go.ChangeShapes Go.WideShapes Go.ChangeAt Go.RowKit Go.Abs
set_option linter.unusedVariables false
set_option maxRecDepth 100000

theorem own : ownKnob Tryd.prog.godebug = none := by kernel_rfl
theorem laidOut : laidOutB Tryd.prog = true := by kernel_rfl
theorem mixed : Tryd.prog.follows .mixedOrders = true := Tryd.mixed01
theorem plainN : plainNames Tryd.prog = true := Tryd.plain01
theorem primsOk : PrimsOk Tryd.prog pr01 := relocPrims_ok mixed plainN Tryd.baseOk (by kernel_rfl) [13] (by intro f hf; simp at hf; subst hf; exact of_decide_eq_true (by kernel_rfl))
theorem primsRl : PrimsRl pr01 := relocPrims_rl Tryd.baseRl S01 [13]
theorem tabs_of (l : List (String × DataW Unit)) (W : World) (hL : laidMet Tryd.prog l W) (hm : ("strings.asciiSpace", Rows.laid_strings_asciiSpace) ∈ l) : ∀ p ∈ S01, TabW Tryd.prog.globals.size W p := by
  intro p hp
  simp [S01] at hp
  subst hp
  have hd : (Rows.laid_strings_asciiSpace : DataW Unit) = Lib.tabData .u8 Lib.asciiSpaceTab := by kernel_rfl
  have hr := Lib.laidMet.reads hL hm
  have hg : Tryd.prog.globalNamed "strings.asciiSpace" = some 0 := by kernel_rfl
  have htab : Lib.TabIs Tryd.prog W "strings.asciiSpace" .u8 Lib.asciiSpaceTab := tabIs_of_reads hg (by kernel_rfl) Tryd.underlying74 Tryd.underlying5 (by kernel_rfl) (by kernel_rfl) hd hr
  have he : spaceC = Lib.asciiSpaceTab.map fun z => .int .u8 z := by simp [spaceC, Lib.asciiSpaceTab, List.map_map, Function.comp_def]
  rw [he]
  exact tabW_of htab hg (of_decide_eq_true (by kernel_rfl)) (by simp [Lib.asciiSpaceTab])
theorem tabs_get : ∀ p ∈ S01, (Heap.startS Tryd.prog.globals.size S01).get p.1 = some p.2 := by
  intro p hp
  simp [S01] at hp
  subst hp
  exact Tree.get_set _ _ _ _ |>.trans (by simp)

end Go.Proofs.YtneaadcnpebfeaaDoor

/- Chapter 01: the reference's sets out of bools, walked. -/
namespace Go.Abs
open Go.Proofs
set_option maxRecDepth 100000
set_option linter.unusedVariables false
set_option linter.unusedSimpArgs false

def ofL : List Bool → Nat
  | [] => 0
  | b :: l => 2 * ofL l + (if b then 1 else 0)
theorem ofL_lt : ∀ l : List Bool, ofL l < 2 ^ l.length
  | [] => by simp [ofL]
  | b :: l => by
    have := ofL_lt l
    simp only [ofL, List.length_cons, Nat.pow_succ]
    split <;> omega
theorem ofL_bit : ∀ (l : List Bool) (i : Nat), (ofL l).testBit i = l.getD i false
  | [], i => by simp [ofL]
  | b :: l, 0 => by
    simp only [ofL, Nat.testBit_zero, List.getD_cons_zero]
    cases b <;> simp <;> omega
  | b :: l, i + 1 => by
    rw [Nat.testBit_succ]
    have : ofL (b :: l) / 2 = ofL l := by simp only [ofL]; split <;> omega
    rw [this, ofL_bit l i]
    rfl
def bools (l : List Bool) : List AV := l.map AV.bool
theorem of_ok {H : Heap} {v : AV} {l : List Bool} (h : Sl H 1 v l.length (bools l)) (hl : l.length = 32) : Cl Tryd.prog pr01 36 [v] H fun r H' => r = .int .u32 (ofL l) ∧ H' = H := by
  obtain ⟨a, cap, ex, rfl, hc, hex⟩ := h.form
  have hll : (l.length : Int) = 32 := by omega
  refine Cl.enter Tryd.func36 rfl rfl Tryd.ntmps36 (by simp) ?_
  refine walk none0 ?_
  refine Wq.loop (fun m e H' => ∃ i : Nat, i ≤ 32 ∧ m = i ∧ H' = H ∧ e 0 = .slice a l.length cap ex ∧ e 3 = .int .u32 (ofL (l.drop i)) ∧ e 4 = .int .i64 ((i : Int) - 1)) 32 ?_ ?_
  · refine ⟨32, by omega, rfl, rfl, by simp, ?_, ?_⟩
    · rw [List.drop_of_length_le (by omega)]; simp [ofL]
    · simp [hl]
  · rintro m e H' ⟨i, hi, hm, rfl, g0, g3, g4⟩
    by_cases hlt : 0 < i
    · obtain ⟨j, rfl⟩ : ∃ j, i = j + 1 := ⟨i - 1, by omega⟩
      have g4' : e 4 = .int .i64 j := by rw [g4]; congr 1; omega
      obtain ⟨b, o, c, t, w, mk, rfl, h1, h2, h3, h4⟩ := h.at (by omega)
      obtain ⟨x, hx⟩ : ∃ x, l[j]? = some x := ⟨l[j]'(by omega), by simp [show j < l.length by omega]⟩
      have hcx : c[o + j]? = some (.bool x) := by rw [sub_get h4 (by omega)]; simp [bools, hx]
      have hjc : o + j < c.length := by omega
      have hjl : j < l.length := by omega
      have hdrop : l.drop j = x :: l.drop (j + 1) := by
        rw [List.drop_eq_getElem_cons hjl]
        congr 1
        simpa [hjl] using hx
      have hlt1 := ofL_lt (l.drop (j + 1))
      rw [List.length_drop] at hlt1
      have hb : ofL (l.drop (j + 1)) < 2147483648 := Nat.lt_of_lt_of_le hlt1 (by
        calc 2 ^ (l.length - (j + 1)) ≤ 2 ^ 31 := Nat.pow_le_pow_right (by omega) (by omega)
          _ = 2147483648 := rfl)
      have hof : ofL (l.drop j) = 2 * ofL (l.drop (j + 1)) + (if x then 1 else 0) := by rw [hdrop]; rfl
      generalize ofL (l.drop (j + 1)) = n at *
      have w1 : IntKind.u32.wrap ((n : Int) * 2) = ((2 * n : Nat) : Int) := by simp [IntKind.wrap, IntKind.signed, IntKind.bits]; omega
      have hj0 : (0 : Int) ≤ j := by omega
      cases x with
      | true =>
        have hof' : ((ofL (l.drop j) : Nat) : Int) = 2 * (n : Int) + 1 := by rw [hof]; simp
        have w2 : IntKind.u32.wrap (2 * (n : Int) + 1) = 2 * (n : Int) + 1 := by simp [IntKind.wrap, IntKind.signed, IntKind.bits]; omega
        refine walk (both g0 (both g3 (both g4' (both w1 (both w2 (both h2 (both hcx (both hjc (both hjl hj0))))))))) ?_
        exact Roundq.normal j (by omega) ⟨j, by omega, rfl, rfl, by simp [g0], by simp [hof'], by simp⟩
      | false =>
        refine walk (both g0 (both g3 (both g4' (both w1 (both h2 (both hcx (both hjc (both hjl hj0)))))))) ?_
        have hof' : ((ofL (l.drop j) : Nat) : Int) = 2 * (n : Int) := by rw [hof]; simp
        exact Roundq.normal j (by omega) ⟨j, by omega, rfl, rfl, by simp [g0], by simp [hof'], by simp⟩
    · obtain rfl : i = 0 := by omega
      have g4' : e 4 = .int .i64 (-1) := by rw [g4]; rfl
      rw [List.drop_zero] at g3
      refine walk (both g0 (both g3 g4')) ?_
      exact ⟨rfl, rfl⟩
def eachB (how : Int) (x y : Bool) : Bool := (decide (how = 0) && x && y) || (decide (how = 1) && (x || y)) || (decide (how = 2) && x && !y)
def eachL (how : Int) (a b : BitVec 32) (n : Nat) : List Bool := (List.range n).map fun i => eachB how (bitA a i) (bitA b i)
theorem each_ok (a b : BitVec 32) (how : Int) (h0 : how = 0 ∨ how = 1 ∨ how = 2) (H : Heap) : Cl Tryd.prog pr01 19 [.int .u32 a.toNat, .int .u32 b.toNat, .int .i64 how] H fun r H' => r = .int .u32 (ofL (eachL how a b 32)) ∧ Keep H H' := by
  refine Cl.enter Tryd.func19 rfl rfl Tryd.ntmps19 (by simp) ?_
  refine walk none0 ?_
  refine Wq.loop (fun m e H' => ∃ (i : Nat) (w : AV), i ≤ 32 ∧ m = 32 - i ∧ e 0 = .int .u32 a.toNat ∧ e 1 = .int .u32 b.toNat ∧ e 2 = .int .i64 how ∧ e 7 = w ∧ e 8 = .int .i64 i ∧ FreshG H H' 4 1 w i (bools (eachL how a b i))) 32 ?_ ?_
  · refine ⟨0, _, by omega, by omega, by simp, by simp, by simp, by simp; rfl, by simp, ?_⟩
    exact FreshG.made (Upd.rfl.push _) (by simp [bools, eachL]) (Nat.le_refl _) (by simp) (by simp [bools, eachL])
  · rintro m e H' ⟨i, w, hi, rfl, g0, g1, g2, g7, g8, hF⟩
    obtain ⟨wa, wc, wx, rfl, hwc, hwx⟩ := hF.own.form
    by_cases hlt : i < 32
    · have hstep : eachL how a b (i + 1) = eachL how a b i ++ [eachB how (bitA a i) (bitA b i)] := by simp [eachL, List.range_succ]
      refine walk (both g0 (both g1 (both g2 (both g8 hlt)))) ?_
      refine (has_ok a i hlt H').mono fun v H1 _ ⟨e1, e2⟩ => ?_
      subst e1; subst e2
      refine walk (both g0 (both g1 (both g2 g8))) ?_
      refine (has_ok b i hlt H1).mono fun v H1 _ ⟨e1, e2⟩ => ?_
      subst e1; subst e2
      generalize bitA a i = x at *
      generalize bitA b i = y at *
      rcases h0 with rfl | rfl | rfl
      · cases x with
        | false =>
          cases y with
          | false =>
            refine walk (both g0 (both g1 (both g2 (both g8 g7)))) ?_
            have kB : Keep H1 (H1.push (.cells [.bool false] 4 true false)) := Upd.rfl.push _
            refine Oq.appendG (own := (hF.own.kept kB)) (new := [.bool false]) (m := 1) (by simp (disch := omega) [g0, g7, -getElem?_pos, wrapI64, tdivN, tmodN, ipos, ineg, dpos, dneg, slc_l, slc_h, slc_lh, slc_hm, slc_lhm, slc_0, slcR_some, slcR_none, cutS_ok, cutA_ok, byteAt_ok]; first | done | (repeat' (first | rfl | apply And.intro))) ⟨_, rfl, by simp; first | done | (repeat' (first | rfl | apply And.intro))⟩ rfl (by kernel_rfl) (by kernel_rfl) (by refine ⟨by simp, ?_⟩; simp (disch := omega) [srcCells, cellsAt, g0, g7, -getElem?_pos, wrapI64, tdivN, tmodN, ipos, ineg, dpos, dneg, slc_l, slc_h, slc_lh, slc_hm, slc_lhm, slc_0, slcR_some, slcR_none, cutS_ok, cutA_ok, byteAt_ok]; first | done | rfl) (by simp [g0, g7]) (by simp [g0, g7]) (by omega) (by omega) fun w1 H2 o1 b1 s1 => ?_
            have f1 := (hF.then kB).app o1 b1 s1
            refine walk (both g0 (both g1 (both g2 g8))) ?_
            refine Roundq.normal (32 - (i + 1)) (by omega) ⟨i + 1, w1, by omega, rfl, by simp [g0], by simp [g1], by simp [g2], by simp, by simp, ?_⟩
            rw [hstep]
            simpa [bools, eachB] using f1
          | true =>
            refine walk (both g0 (both g1 (both g2 (both g8 g7)))) ?_
            have kB : Keep H1 (H1.push (.cells [.bool false] 4 true false)) := Upd.rfl.push _
            refine Oq.appendG (own := (hF.own.kept kB)) (new := [.bool false]) (m := 1) (by simp (disch := omega) [g0, g7, -getElem?_pos, wrapI64, tdivN, tmodN, ipos, ineg, dpos, dneg, slc_l, slc_h, slc_lh, slc_hm, slc_lhm, slc_0, slcR_some, slcR_none, cutS_ok, cutA_ok, byteAt_ok]; first | done | (repeat' (first | rfl | apply And.intro))) ⟨_, rfl, by simp; first | done | (repeat' (first | rfl | apply And.intro))⟩ rfl (by kernel_rfl) (by kernel_rfl) (by refine ⟨by simp, ?_⟩; simp (disch := omega) [srcCells, cellsAt, g0, g7, -getElem?_pos, wrapI64, tdivN, tmodN, ipos, ineg, dpos, dneg, slc_l, slc_h, slc_lh, slc_hm, slc_lhm, slc_0, slcR_some, slcR_none, cutS_ok, cutA_ok, byteAt_ok]; first | done | rfl) (by simp [g0, g7]) (by simp [g0, g7]) (by omega) (by omega) fun w1 H2 o1 b1 s1 => ?_
            have f1 := (hF.then kB).app o1 b1 s1
            refine walk (both g0 (both g1 (both g2 g8))) ?_
            refine Roundq.normal (32 - (i + 1)) (by omega) ⟨i + 1, w1, by omega, rfl, by simp [g0], by simp [g1], by simp [g2], by simp, by simp, ?_⟩
            rw [hstep]
            simpa [bools, eachB] using f1
        | true =>
          cases y with
          | false =>
            refine walk (both g0 (both g1 (both g2 (both g8 g7)))) ?_
            have kB : Keep H1 (H1.push (.cells [.bool false] 4 true false)) := Upd.rfl.push _
            refine Oq.appendG (own := (hF.own.kept kB)) (new := [.bool false]) (m := 1) (by simp (disch := omega) [g0, g7, -getElem?_pos, wrapI64, tdivN, tmodN, ipos, ineg, dpos, dneg, slc_l, slc_h, slc_lh, slc_hm, slc_lhm, slc_0, slcR_some, slcR_none, cutS_ok, cutA_ok, byteAt_ok]; first | done | (repeat' (first | rfl | apply And.intro))) ⟨_, rfl, by simp; first | done | (repeat' (first | rfl | apply And.intro))⟩ rfl (by kernel_rfl) (by kernel_rfl) (by refine ⟨by simp, ?_⟩; simp (disch := omega) [srcCells, cellsAt, g0, g7, -getElem?_pos, wrapI64, tdivN, tmodN, ipos, ineg, dpos, dneg, slc_l, slc_h, slc_lh, slc_hm, slc_lhm, slc_0, slcR_some, slcR_none, cutS_ok, cutA_ok, byteAt_ok]; first | done | rfl) (by simp [g0, g7]) (by simp [g0, g7]) (by omega) (by omega) fun w1 H2 o1 b1 s1 => ?_
            have f1 := (hF.then kB).app o1 b1 s1
            refine walk (both g0 (both g1 (both g2 g8))) ?_
            refine Roundq.normal (32 - (i + 1)) (by omega) ⟨i + 1, w1, by omega, rfl, by simp [g0], by simp [g1], by simp [g2], by simp, by simp, ?_⟩
            rw [hstep]
            simpa [bools, eachB] using f1
          | true =>
            refine walk (both g0 (both g1 (both g2 (both g8 g7)))) ?_
            have kB : Keep H1 (H1.push (.cells [.bool true] 4 true false)) := Upd.rfl.push _
            refine Oq.appendG (own := (hF.own.kept kB)) (new := [.bool true]) (m := 1) (by simp (disch := omega) [g0, g7, -getElem?_pos, wrapI64, tdivN, tmodN, ipos, ineg, dpos, dneg, slc_l, slc_h, slc_lh, slc_hm, slc_lhm, slc_0, slcR_some, slcR_none, cutS_ok, cutA_ok, byteAt_ok]; first | done | (repeat' (first | rfl | apply And.intro))) ⟨_, rfl, by simp; first | done | (repeat' (first | rfl | apply And.intro))⟩ rfl (by kernel_rfl) (by kernel_rfl) (by refine ⟨by simp, ?_⟩; simp (disch := omega) [srcCells, cellsAt, g0, g7, -getElem?_pos, wrapI64, tdivN, tmodN, ipos, ineg, dpos, dneg, slc_l, slc_h, slc_lh, slc_hm, slc_lhm, slc_0, slcR_some, slcR_none, cutS_ok, cutA_ok, byteAt_ok]; first | done | rfl) (by simp [g0, g7]) (by simp [g0, g7]) (by omega) (by omega) fun w1 H2 o1 b1 s1 => ?_
            have f1 := (hF.then kB).app o1 b1 s1
            refine walk (both g0 (both g1 (both g2 g8))) ?_
            refine Roundq.normal (32 - (i + 1)) (by omega) ⟨i + 1, w1, by omega, rfl, by simp [g0], by simp [g1], by simp [g2], by simp, by simp, ?_⟩
            rw [hstep]
            simpa [bools, eachB] using f1
      · cases x with
        | false =>
          cases y with
          | false =>
            refine walk (both g0 (both g1 (both g2 (both g8 g7)))) ?_
            have kB : Keep H1 (H1.push (.cells [.bool false] 4 true false)) := Upd.rfl.push _
            refine Oq.appendG (own := (hF.own.kept kB)) (new := [.bool false]) (m := 1) (by simp (disch := omega) [g0, g7, -getElem?_pos, wrapI64, tdivN, tmodN, ipos, ineg, dpos, dneg, slc_l, slc_h, slc_lh, slc_hm, slc_lhm, slc_0, slcR_some, slcR_none, cutS_ok, cutA_ok, byteAt_ok]; first | done | (repeat' (first | rfl | apply And.intro))) ⟨_, rfl, by simp; first | done | (repeat' (first | rfl | apply And.intro))⟩ rfl (by kernel_rfl) (by kernel_rfl) (by refine ⟨by simp, ?_⟩; simp (disch := omega) [srcCells, cellsAt, g0, g7, -getElem?_pos, wrapI64, tdivN, tmodN, ipos, ineg, dpos, dneg, slc_l, slc_h, slc_lh, slc_hm, slc_lhm, slc_0, slcR_some, slcR_none, cutS_ok, cutA_ok, byteAt_ok]; first | done | rfl) (by simp [g0, g7]) (by simp [g0, g7]) (by omega) (by omega) fun w1 H2 o1 b1 s1 => ?_
            have f1 := (hF.then kB).app o1 b1 s1
            refine walk (both g0 (both g1 (both g2 g8))) ?_
            refine Roundq.normal (32 - (i + 1)) (by omega) ⟨i + 1, w1, by omega, rfl, by simp [g0], by simp [g1], by simp [g2], by simp, by simp, ?_⟩
            rw [hstep]
            simpa [bools, eachB] using f1
          | true =>
            refine walk (both g0 (both g1 (both g2 (both g8 g7)))) ?_
            have kB : Keep H1 (H1.push (.cells [.bool true] 4 true false)) := Upd.rfl.push _
            refine Oq.appendG (own := (hF.own.kept kB)) (new := [.bool true]) (m := 1) (by simp (disch := omega) [g0, g7, -getElem?_pos, wrapI64, tdivN, tmodN, ipos, ineg, dpos, dneg, slc_l, slc_h, slc_lh, slc_hm, slc_lhm, slc_0, slcR_some, slcR_none, cutS_ok, cutA_ok, byteAt_ok]; first | done | (repeat' (first | rfl | apply And.intro))) ⟨_, rfl, by simp; first | done | (repeat' (first | rfl | apply And.intro))⟩ rfl (by kernel_rfl) (by kernel_rfl) (by refine ⟨by simp, ?_⟩; simp (disch := omega) [srcCells, cellsAt, g0, g7, -getElem?_pos, wrapI64, tdivN, tmodN, ipos, ineg, dpos, dneg, slc_l, slc_h, slc_lh, slc_hm, slc_lhm, slc_0, slcR_some, slcR_none, cutS_ok, cutA_ok, byteAt_ok]; first | done | rfl) (by simp [g0, g7]) (by simp [g0, g7]) (by omega) (by omega) fun w1 H2 o1 b1 s1 => ?_
            have f1 := (hF.then kB).app o1 b1 s1
            refine walk (both g0 (both g1 (both g2 g8))) ?_
            refine Roundq.normal (32 - (i + 1)) (by omega) ⟨i + 1, w1, by omega, rfl, by simp [g0], by simp [g1], by simp [g2], by simp, by simp, ?_⟩
            rw [hstep]
            simpa [bools, eachB] using f1
        | true =>
          cases y with
          | false =>
            refine walk (both g0 (both g1 (both g2 (both g8 g7)))) ?_
            have kB : Keep H1 (H1.push (.cells [.bool true] 4 true false)) := Upd.rfl.push _
            refine Oq.appendG (own := (hF.own.kept kB)) (new := [.bool true]) (m := 1) (by simp (disch := omega) [g0, g7, -getElem?_pos, wrapI64, tdivN, tmodN, ipos, ineg, dpos, dneg, slc_l, slc_h, slc_lh, slc_hm, slc_lhm, slc_0, slcR_some, slcR_none, cutS_ok, cutA_ok, byteAt_ok]; first | done | (repeat' (first | rfl | apply And.intro))) ⟨_, rfl, by simp; first | done | (repeat' (first | rfl | apply And.intro))⟩ rfl (by kernel_rfl) (by kernel_rfl) (by refine ⟨by simp, ?_⟩; simp (disch := omega) [srcCells, cellsAt, g0, g7, -getElem?_pos, wrapI64, tdivN, tmodN, ipos, ineg, dpos, dneg, slc_l, slc_h, slc_lh, slc_hm, slc_lhm, slc_0, slcR_some, slcR_none, cutS_ok, cutA_ok, byteAt_ok]; first | done | rfl) (by simp [g0, g7]) (by simp [g0, g7]) (by omega) (by omega) fun w1 H2 o1 b1 s1 => ?_
            have f1 := (hF.then kB).app o1 b1 s1
            refine walk (both g0 (both g1 (both g2 g8))) ?_
            refine Roundq.normal (32 - (i + 1)) (by omega) ⟨i + 1, w1, by omega, rfl, by simp [g0], by simp [g1], by simp [g2], by simp, by simp, ?_⟩
            rw [hstep]
            simpa [bools, eachB] using f1
          | true =>
            refine walk (both g0 (both g1 (both g2 (both g8 g7)))) ?_
            have kB : Keep H1 (H1.push (.cells [.bool true] 4 true false)) := Upd.rfl.push _
            refine Oq.appendG (own := (hF.own.kept kB)) (new := [.bool true]) (m := 1) (by simp (disch := omega) [g0, g7, -getElem?_pos, wrapI64, tdivN, tmodN, ipos, ineg, dpos, dneg, slc_l, slc_h, slc_lh, slc_hm, slc_lhm, slc_0, slcR_some, slcR_none, cutS_ok, cutA_ok, byteAt_ok]; first | done | (repeat' (first | rfl | apply And.intro))) ⟨_, rfl, by simp; first | done | (repeat' (first | rfl | apply And.intro))⟩ rfl (by kernel_rfl) (by kernel_rfl) (by refine ⟨by simp, ?_⟩; simp (disch := omega) [srcCells, cellsAt, g0, g7, -getElem?_pos, wrapI64, tdivN, tmodN, ipos, ineg, dpos, dneg, slc_l, slc_h, slc_lh, slc_hm, slc_lhm, slc_0, slcR_some, slcR_none, cutS_ok, cutA_ok, byteAt_ok]; first | done | rfl) (by simp [g0, g7]) (by simp [g0, g7]) (by omega) (by omega) fun w1 H2 o1 b1 s1 => ?_
            have f1 := (hF.then kB).app o1 b1 s1
            refine walk (both g0 (both g1 (both g2 g8))) ?_
            refine Roundq.normal (32 - (i + 1)) (by omega) ⟨i + 1, w1, by omega, rfl, by simp [g0], by simp [g1], by simp [g2], by simp, by simp, ?_⟩
            rw [hstep]
            simpa [bools, eachB] using f1
      · cases x with
        | false =>
          cases y with
          | false =>
            refine walk (both g0 (both g1 (both g2 (both g8 g7)))) ?_
            have kB : Keep H1 (H1.push (.cells [.bool false] 4 true false)) := Upd.rfl.push _
            refine Oq.appendG (own := (hF.own.kept kB)) (new := [.bool false]) (m := 1) (by simp (disch := omega) [g0, g7, -getElem?_pos, wrapI64, tdivN, tmodN, ipos, ineg, dpos, dneg, slc_l, slc_h, slc_lh, slc_hm, slc_lhm, slc_0, slcR_some, slcR_none, cutS_ok, cutA_ok, byteAt_ok]; first | done | (repeat' (first | rfl | apply And.intro))) ⟨_, rfl, by simp; first | done | (repeat' (first | rfl | apply And.intro))⟩ rfl (by kernel_rfl) (by kernel_rfl) (by refine ⟨by simp, ?_⟩; simp (disch := omega) [srcCells, cellsAt, g0, g7, -getElem?_pos, wrapI64, tdivN, tmodN, ipos, ineg, dpos, dneg, slc_l, slc_h, slc_lh, slc_hm, slc_lhm, slc_0, slcR_some, slcR_none, cutS_ok, cutA_ok, byteAt_ok]; first | done | rfl) (by simp [g0, g7]) (by simp [g0, g7]) (by omega) (by omega) fun w1 H2 o1 b1 s1 => ?_
            have f1 := (hF.then kB).app o1 b1 s1
            refine walk (both g0 (both g1 (both g2 g8))) ?_
            refine Roundq.normal (32 - (i + 1)) (by omega) ⟨i + 1, w1, by omega, rfl, by simp [g0], by simp [g1], by simp [g2], by simp, by simp, ?_⟩
            rw [hstep]
            simpa [bools, eachB] using f1
          | true =>
            refine walk (both g0 (both g1 (both g2 (both g8 g7)))) ?_
            have kB : Keep H1 (H1.push (.cells [.bool false] 4 true false)) := Upd.rfl.push _
            refine Oq.appendG (own := (hF.own.kept kB)) (new := [.bool false]) (m := 1) (by simp (disch := omega) [g0, g7, -getElem?_pos, wrapI64, tdivN, tmodN, ipos, ineg, dpos, dneg, slc_l, slc_h, slc_lh, slc_hm, slc_lhm, slc_0, slcR_some, slcR_none, cutS_ok, cutA_ok, byteAt_ok]; first | done | (repeat' (first | rfl | apply And.intro))) ⟨_, rfl, by simp; first | done | (repeat' (first | rfl | apply And.intro))⟩ rfl (by kernel_rfl) (by kernel_rfl) (by refine ⟨by simp, ?_⟩; simp (disch := omega) [srcCells, cellsAt, g0, g7, -getElem?_pos, wrapI64, tdivN, tmodN, ipos, ineg, dpos, dneg, slc_l, slc_h, slc_lh, slc_hm, slc_lhm, slc_0, slcR_some, slcR_none, cutS_ok, cutA_ok, byteAt_ok]; first | done | rfl) (by simp [g0, g7]) (by simp [g0, g7]) (by omega) (by omega) fun w1 H2 o1 b1 s1 => ?_
            have f1 := (hF.then kB).app o1 b1 s1
            refine walk (both g0 (both g1 (both g2 g8))) ?_
            refine Roundq.normal (32 - (i + 1)) (by omega) ⟨i + 1, w1, by omega, rfl, by simp [g0], by simp [g1], by simp [g2], by simp, by simp, ?_⟩
            rw [hstep]
            simpa [bools, eachB] using f1
        | true =>
          cases y with
          | false =>
            refine walk (both g0 (both g1 (both g2 (both g8 g7)))) ?_
            have kB : Keep H1 (H1.push (.cells [.bool true] 4 true false)) := Upd.rfl.push _
            refine Oq.appendG (own := (hF.own.kept kB)) (new := [.bool true]) (m := 1) (by simp (disch := omega) [g0, g7, -getElem?_pos, wrapI64, tdivN, tmodN, ipos, ineg, dpos, dneg, slc_l, slc_h, slc_lh, slc_hm, slc_lhm, slc_0, slcR_some, slcR_none, cutS_ok, cutA_ok, byteAt_ok]; first | done | (repeat' (first | rfl | apply And.intro))) ⟨_, rfl, by simp; first | done | (repeat' (first | rfl | apply And.intro))⟩ rfl (by kernel_rfl) (by kernel_rfl) (by refine ⟨by simp, ?_⟩; simp (disch := omega) [srcCells, cellsAt, g0, g7, -getElem?_pos, wrapI64, tdivN, tmodN, ipos, ineg, dpos, dneg, slc_l, slc_h, slc_lh, slc_hm, slc_lhm, slc_0, slcR_some, slcR_none, cutS_ok, cutA_ok, byteAt_ok]; first | done | rfl) (by simp [g0, g7]) (by simp [g0, g7]) (by omega) (by omega) fun w1 H2 o1 b1 s1 => ?_
            have f1 := (hF.then kB).app o1 b1 s1
            refine walk (both g0 (both g1 (both g2 g8))) ?_
            refine Roundq.normal (32 - (i + 1)) (by omega) ⟨i + 1, w1, by omega, rfl, by simp [g0], by simp [g1], by simp [g2], by simp, by simp, ?_⟩
            rw [hstep]
            simpa [bools, eachB] using f1
          | true =>
            refine walk (both g0 (both g1 (both g2 (both g8 g7)))) ?_
            have kB : Keep H1 (H1.push (.cells [.bool false] 4 true false)) := Upd.rfl.push _
            refine Oq.appendG (own := (hF.own.kept kB)) (new := [.bool false]) (m := 1) (by simp (disch := omega) [g0, g7, -getElem?_pos, wrapI64, tdivN, tmodN, ipos, ineg, dpos, dneg, slc_l, slc_h, slc_lh, slc_hm, slc_lhm, slc_0, slcR_some, slcR_none, cutS_ok, cutA_ok, byteAt_ok]; first | done | (repeat' (first | rfl | apply And.intro))) ⟨_, rfl, by simp; first | done | (repeat' (first | rfl | apply And.intro))⟩ rfl (by kernel_rfl) (by kernel_rfl) (by refine ⟨by simp, ?_⟩; simp (disch := omega) [srcCells, cellsAt, g0, g7, -getElem?_pos, wrapI64, tdivN, tmodN, ipos, ineg, dpos, dneg, slc_l, slc_h, slc_lh, slc_hm, slc_lhm, slc_0, slcR_some, slcR_none, cutS_ok, cutA_ok, byteAt_ok]; first | done | rfl) (by simp [g0, g7]) (by simp [g0, g7]) (by omega) (by omega) fun w1 H2 o1 b1 s1 => ?_
            have f1 := (hF.then kB).app o1 b1 s1
            refine walk (both g0 (both g1 (both g2 g8))) ?_
            refine Roundq.normal (32 - (i + 1)) (by omega) ⟨i + 1, w1, by omega, rfl, by simp [g0], by simp [g1], by simp [g2], by simp, by simp, ?_⟩
            rw [hstep]
            simpa [bools, eachB] using f1
    · obtain rfl : i = 32 := by omega
      refine walk (both g0 (both g1 (both g2 (both g7 g8)))) ?_
      refine (of_ok (l := eachL how a b 32) ?_ (by simp [eachL])).mono fun v H1 _ ⟨e1, e2⟩ => ?_
      · have := hF.own.sl
        simpa [eachL] using this
      subst e1; subst e2
      refine walk none0 ?_
      exact ⟨rfl, hF.keep⟩
end Go.Abs

/- Chapter 01: RightsReckons, walked. -/
namespace Go.Abs
open Go.Proofs
set_option maxRecDepth 100000
set_option linter.unusedVariables false
set_option linter.unusedSimpArgs false

theorem each_bit (how : Int) (a b : BitVec 32) (i : Nat) : (ofL (eachL how a b 32)).testBit i = (decide (i < 32) && eachB how (bitA a i) (bitA b i)) := by
  rw [ofL_bit, List.getD_eq_getElem?_getD, eachL, List.getElem?_map]
  by_cases h : i < 32
  · rw [List.getElem?_range h]; simp [h]
  · rw [List.getElem?_eq_none (by simp; omega)]; simp [h]
theorem bit_lt {a : BitVec 32} {i : Nat} (h : ¬ i < 32) : a.getLsbD i = false := BitVec.getLsbD_of_ge a i (by omega)
theorem each_and (a b : BitVec 32) : ofL (eachL 0 a b 32) = (a &&& b).toNat := by
  apply Nat.eq_of_testBit_eq
  intro i
  rw [each_bit]
  show _ = (a &&& b).getLsbD i
  rw [BitVec.getLsbD_and]
  by_cases h : i < 32
  · simp [h, eachB, bitA]
  · simp [h, bit_lt h]
theorem each_or (a b : BitVec 32) : ofL (eachL 1 a b 32) = (a ||| b).toNat := by
  apply Nat.eq_of_testBit_eq
  intro i
  rw [each_bit]
  show _ = (a ||| b).getLsbD i
  rw [BitVec.getLsbD_or]
  by_cases h : i < 32
  · simp [h, eachB, bitA]
  · simp [h, bit_lt h]
theorem each_minus (a b : BitVec 32) : ofL (eachL 2 a b 32) = (a &&& ~~~b).toNat := by
  apply Nat.eq_of_testBit_eq
  intro i
  rw [each_bit]
  show _ = (a &&& ~~~b).getLsbD i
  rw [BitVec.getLsbD_and, BitVec.getLsbD_not]
  by_cases h : i < 32
  · simp [h, eachB, bitA]
  · simp [h, bit_lt h]
def cntA (a : BitVec 32) : Nat := (List.range 32).countP (bitA a)
theorem refCount_ok (a : BitVec 32) (H : Heap) : Cl Tryd.prog pr01 23 [.int .u32 a.toNat] H fun r H' => r = .int .i64 (cntA a) ∧ H' = H := by
  refine Cl.enter Tryd.func23 rfl rfl Tryd.ntmps23 (by simp) ?_
  refine walk none0 ?_
  refine Wq.loop (fun m e H' => ∃ i : Nat, i ≤ 32 ∧ m = 32 - i ∧ H' = H ∧ e 0 = .int .u32 a.toNat ∧ e 3 = .int .i64 (((List.range i).countP (bitA a) : Nat) : Int) ∧ e 4 = .int .i64 i) 32 ?_ ?_
  · exact ⟨0, by omega, by omega, rfl, by simp, by simp, by simp⟩
  · rintro m e H' ⟨i, hi, rfl, rfl, g0, g3, g4⟩
    by_cases hlt : i < 32
    · have hs : (List.range (i + 1)).countP (bitA a) = (List.range i).countP (bitA a) + (if bitA a i then 1 else 0) := by rw [List.range_succ, List.countP_append]; simp [List.countP_cons]
      have hle : (List.range i).countP (bitA a) ≤ i := by have := List.countP_le_length (p := bitA a) (l := List.range i); simpa using this
      generalize (List.range i).countP (bitA a) = n at *
      refine walk (both g0 (both g3 (both g4 hlt))) ?_
      refine (has_ok a i hlt H').mono fun v H1 _ ⟨e1, e2⟩ => ?_
      subst e1; subst e2
      cases hb : bitA a i with
      | true =>
        rw [hb] at hs
        refine walk (both g0 (both g3 g4)) ?_
        exact Roundq.normal (32 - (i + 1)) (by omega) ⟨i + 1, by omega, rfl, rfl, by simp [g0], by simp [hs], by simp⟩
      | false =>
        rw [hb] at hs
        refine walk (both g0 (both g3 g4)) ?_
        exact Roundq.normal (32 - (i + 1)) (by omega) ⟨i + 1, by omega, rfl, rfl, by simp [g0], by simp [hs, g3], by simp⟩
    · obtain rfl : i = 32 := by omega
      refine walk (both g0 (both g3 g4)) ?_
      exact ⟨rfl, rfl⟩
def findIdx : List Oper → Option Value
  | [] => none
  | o :: os => match o.op with
    | .index _ (.const v) _ => some v
    | _ => findIdx os
def allOps : Code → List Oper
  | .region _ ops _ => ops.toList
  | .seq a b => allOps a ++ allOps b
  | .scope a => allOps a
  | .block _ a => allOps a
  | _ => []
noncomputable def onesV : Value := ((Tryd.f37.body.bind fun c => findIdx (allOps c)).getD Go.undef)
def pop8 (k : Nat) : Nat := (List.range 8).countP k.testBit
def popTab : List UInt8 := (List.range 256).map fun k => UInt8.ofNat (pop8 k)
theorem ones_val : (match ofConst onesV with | some (.str s) => decide (s = popTab) | _ => false) = true := by kernel_rfl
theorem ones_const : ofConst onesV = some (.str popTab) := by
  have := ones_val
  split at this
  · rename_i s h; rw [h]; simp at this; rw [this]
  · cases this
theorem pop8_le (k : Nat) : pop8 k ≤ 8 := by have := List.countP_le_length (p := k.testBit) (l := List.range 8); simpa [pop8] using this
theorem pop_at {k : Nat} (h : k < 256) (T : List AV) (H : Heap) : indexR Tryd.prog 9 (ev Tryd.prog T (.const onesV)) (some (.int .u32 k)) H = some (.int .u8 (pop8 k), H) := by
  rw [ev_const, ones_const]
  have hl : popTab.length = 256 := by simp [popTab]
  have h8 := pop8_le k
  have : indexR Tryd.prog 9 (some (.str popTab)) (some (.int .u32 k)) H = byteAt popTab k H := by simp
  rw [this, byteAt_ok ⟨by omega, by omega⟩]
  congr 3
  simp [popTab, List.getD, h]
  omega
theorem fd (n k : Nat) (h : k ≤ 32) : (n : Int).fdiv (2 ^ min k IntKind.u32.bits) = ((n / 2 ^ k : Nat) : Int) := by
  have : min k IntKind.u32.bits = k := Nat.min_eq_left h
  rw [this, Int.ofNat_fdiv]
  congr 1
theorem low8 (n : Nat) (h : n < 2 ^ 32) : IntKind.u32.wrap ((((n : Int) % 2 ^ IntKind.u32.bits).toNat &&& 255 % 2 ^ IntKind.u32.bits : Nat) : Int) = ((n % 256 : Nat) : Int) := by
  have h1 : ((n : Int) % 2 ^ IntKind.u32.bits).toNat = n := by simp [IntKind.bits]; omega
  have h2 : 255 % 2 ^ IntKind.u32.bits = 2 ^ 8 - 1 := by simp [IntKind.bits]
  rw [h1, h2, Nat.and_two_pow_sub_one_eq_mod]
  simp [IntKind.wrap, IntKind.signed, IntKind.bits]
  omega
theorem pop8_part (m s : Nat) : pop8 (m / 2 ^ s % 256) = (List.range 8).countP fun i => m.testBit (s + i) := by
  unfold pop8
  apply List.countP_congr
  intro i hi
  have h8 : i < 8 := by simpa using hi
  have : (256 : Nat) = 2 ^ 8 := rfl
  rw [this, Nat.testBit_mod_two_pow, Nat.testBit_div_two_pow]
  simp [h8, Nat.add_comm]
theorem countP_plus (p : Nat → Bool) (a b : Nat) : (List.range (a + b)).countP p = (List.range a).countP p + (List.range b).countP fun i => p (a + i) := by
  rw [List.range_add, List.countP_append, List.countP_map]
  rfl
theorem cntA_eq (a : BitVec 32) : cntA a = pop8 (a.toNat / 2 ^ 24) + pop8 (a.toNat / 2 ^ 16 % 256) + pop8 (a.toNat / 2 ^ 8 % 256) + pop8 (a.toNat % 256) := by
  have hlt := a.isLt
  have e3 : a.toNat / 2 ^ 24 = a.toNat / 2 ^ 24 % 256 := by omega
  have e0 : a.toNat % 256 = a.toNat / 2 ^ 0 % 256 := by simp
  rw [e3, e0, pop8_part, pop8_part, pop8_part, pop8_part]
  have : cntA a = (List.range (8 + 8 + 8 + 8)).countP (fun i => a.toNat.testBit i) := rfl
  rw [this, countP_plus, countP_plus, countP_plus]
  have q2 : (fun i => a.toNat.testBit (8 + 8 + i)) = fun i => a.toNat.testBit (16 + i) := rfl
  have q3 : (fun i => a.toNat.testBit (8 + 8 + 8 + i)) = fun i => a.toNat.testBit (24 + i) := rfl
  rw [q2, q3]
  simp only [Nat.zero_add]
  omega
theorem ones_ok (a : BitVec 32) (H : Heap) : Cl Tryd.prog pr01 37 [.int .u32 a.toNat] H fun r H' => r = .int .i64 (cntA a) ∧ H' = H := by
  have hlt := a.isLt
  rw [cntA_eq]
  have f3 := fd a.toNat 24 (by omega)
  have f2 := fd a.toNat 16 (by omega)
  have f1 := fd a.toNat 8 (by omega)
  have l2 := low8 (a.toNat / 2 ^ 16) (by omega)
  have l1 := low8 (a.toNat / 2 ^ 8) (by omega)
  have l0 := low8 a.toNat hlt
  obtain ⟨k3, hk3⟩ : ∃ k : Nat, k = a.toNat / 2 ^ 24 := ⟨_, rfl⟩
  obtain ⟨k2, hk2⟩ : ∃ k : Nat, k = a.toNat / 2 ^ 16 % 256 := ⟨_, rfl⟩
  obtain ⟨k1, hk1⟩ : ∃ k : Nat, k = a.toNat / 2 ^ 8 % 256 := ⟨_, rfl⟩
  obtain ⟨k0, hk0⟩ : ∃ k : Nat, k = a.toNat % 256 := ⟨_, rfl⟩
  rw [← hk3] at f3
  rw [← f2, ← hk2] at l2
  rw [← f1, ← hk1] at l1
  have l0 : IntKind.u32.wrap ((a.toNat % 2 ^ IntKind.u32.bits &&& 255 % 2 ^ IntKind.u32.bits : Nat) : Int) = ((a.toNat % 256 : Nat) : Int) := l0
  rw [← hk0] at l0
  rw [← hk3, ← hk2, ← hk1, ← hk0]
  have p3 := pop8_le k3
  have p2 := pop8_le k2
  have p1 := pop8_le k1
  have p0 := pop8_le k0
  have w2 : IntKind.u8.wrap ((pop8 k3 : Int) + pop8 k2) = (pop8 k3 : Int) + pop8 k2 := by simp [IntKind.wrap, IntKind.signed, IntKind.bits]; omega
  have w1 : IntKind.u8.wrap ((pop8 k3 : Int) + pop8 k2 + pop8 k1) = (pop8 k3 : Int) + pop8 k2 + pop8 k1 := by simp [IntKind.wrap, IntKind.signed, IntKind.bits]; omega
  have w0 : IntKind.u8.wrap ((pop8 k3 : Int) + pop8 k2 + pop8 k1 + pop8 k0) = (pop8 k3 : Int) + pop8 k2 + pop8 k1 + pop8 k0 := by simp [IntKind.wrap, IntKind.signed, IntKind.bits]; omega
  refine Cl.enter Tryd.func37 rfl rfl Tryd.ntmps37 (by simp) ?_
  refine walk none0 ?_
  refine Wq.regionD [0, 1, 2, 3, 4, 5, 6, 7, 8, 9, 10, 11, 12, 13, 14, 15, 16, 17, 18] (by kernel_rfl) ?_
  refine walk f3 ?_
  refine Oq.o1 (v := .int .u8 (pop8 k3)) (H' := H) (by rw [opR_index, show ev Tryd.prog _ (.tmp 4) = some (.int .u32 k3) from by simp]; exact pop_at (by omega) _ _) ?_
  refine walk l2 ?_
  refine Oq.o1 (v := .int .u8 (pop8 k2)) (H' := H) (by rw [opR_index, show ev Tryd.prog _ (.tmp 8) = some (.int .u32 k2) from by simp]; exact pop_at (by omega) _ _) ?_
  refine walk (both l1 w2) ?_
  refine Oq.o1 (v := .int .u8 (pop8 k1)) (H' := H) (by rw [opR_index, show ev Tryd.prog _ (.tmp 13) = some (.int .u32 k1) from by simp]; exact pop_at (by omega) _ _) ?_
  refine walk (both l0 w1) ?_
  refine Oq.o1 (v := .int .u8 (pop8 k0)) (H' := H) (by rw [opR_index, show ev Tryd.prog _ (.tmp 17) = some (.int .u32 k0) from by simp]; exact pop_at (by omega) _ _) ?_
  refine walk w0 ?_
  exact ⟨by simp, rfl⟩
theorem count_ok (a : BitVec 32) (H : Heap) : Cl Tryd.prog pr01 22 [.int .u32 a.toNat] H fun r H' => r = .int .i64 (cntA a) ∧ H' = H := by
  refine Cl.enter Tryd.func22 rfl rfl Tryd.ntmps22 (by simp) ?_
  refine walk none0 ?_
  refine (ones_ok a H).mono fun v H1 _ ⟨e1, e2⟩ => ?_
  subst e1; subst e2
  refine walk none0 ?_
  exact ⟨rfl, rfl⟩
theorem lain_kept {S : Stats} {H H' : Heap} (h : Lain S H) (g : Keep H H') : Lain S H' := fun p hp => ⟨(g.get (h p hp).2).trans (h p hp).1, Nat.lt_of_lt_of_le (h p hp).2 g.next⟩
theorem rightsReckons_main (a b : BitVec 32) {H : Heap} (hL : Lain S01 H) : Cl Tryd.prog pr01 6 [.int .u32 a.toNat, .int .u32 b.toNat] H fun v _ => v = .bool true := by
  have c0 := each_and a b
  have c1 := each_or a b
  have c2 := each_minus a b
  refine Cl.enter Tryd.func6 rfl rfl Tryd.ntmps6 (by simp) ?_
  refine walk none0 ?_
  refine (and_ok a b H).mono fun v H1 _ ⟨e1, e2⟩ => ?_
  subst e1; subst e2
  generalize a &&& b = m at *
  refine walk none0 ?_
  refine (each_ok a b 0 (by simp) H1).mono fun v H2 _ ⟨e1, kA⟩ => ?_
  subst e1
  rw [c0]
  refine walk none0 ?_
  refine (or_ok a b H2).mono fun v H3 _ ⟨e1, e2⟩ => ?_
  subst e1; subst e2
  generalize a ||| b = o at *
  refine walk none0 ?_
  refine (each_ok a b 1 (by simp) H3).mono fun v H4 _ ⟨e1, kB⟩ => ?_
  subst e1
  rw [c1]
  refine walk none0 ?_
  refine (minus_ok a b H4).mono fun v H5 _ ⟨e1, e2⟩ => ?_
  subst e1; subst e2
  generalize a &&& ~~~b = d at *
  refine walk none0 ?_
  refine (each_ok a b 2 (by simp) H5).mono fun v H6 _ ⟨e1, kC⟩ => ?_
  subst e1
  rw [c2]
  refine walk none0 ?_
  refine (count_ok a H6).mono fun v H7 _ ⟨e1, e2⟩ => ?_
  subst e1; subst e2
  refine walk none0 ?_
  refine (refCount_ok a H7).mono fun v H8 _ ⟨e1, e2⟩ => ?_
  subst e1; subst e2
  have hL' := lain_kept (lain_kept (lain_kept hL kA) kB) kC
  refine walk none0 ?_
  refine (lives_ok hL').mono fun v H1 _ ⟨e1, e2⟩ => ?_
  subst e1; subst e2
  refine walk none0 ?_
  rfl
end Go.Abs
