/- Texts on this program, joined. -/
import Derived.Test.YtkeenmalbkcjnaaOwn05
import Derived.Test.YtkeenmalbkcjnaaKit06
import Derived.Test.YtkeenmalbkcjnaaKit03
import Derived.Test.YtkeenmalbkcjnaaKit04
import Derived.Test.YtkeenmalbkcjnaaRows
import Derived.WalkKit
import Derived.ProofKit
import Derived.OpenShut
import Derived.ShutString
import Derived.ChangeOld
import Derived.Below

/- Chapter 13: SlotsNews, walked. -/
namespace Go.Abs
open Go.Proofs
set_option maxRecDepth 100000
set_option linter.unusedVariables false
set_option linter.unusedSimpArgs false

def pr13 : Prims := closedPrims [(10, .bool true)]
theorem lives_ok (H : Heap) : Cl Try.prog pr13 10 [] H fun v H' => v = .bool true ∧ H' = H := Cl.prim (v := .bool true) (H' := H) rfl rfl ⟨rfl, rfl⟩
theorem keep_new (H : Heap) (x y : AObj) : Keep H ((H.push x).set H.next y) := (Upd.rfl.push _).set _ (by simp) (by omega)
def slotV (x : Int) : AV := .agg [.int .i64 x, .int .u32 4294967295, .bool true, .slice none 0 0 none, .int .i64 120]
theorem all51_ok (H : Heap) : Cl Try.prog pr13 51 [] H fun r H' => Keep H H' ∧ r = .agg [.bool true, .slice none 0 0 none] := by
  refine Cl.enter Try.func51 rfl rfl Try.ntmps51 (by simp) ?_
  refine walk none0 ?_
  exact ⟨keep_new _ _ _, rfl⟩
theorem full25_ok (x : Int) (H : Heap) : Cl Try.prog pr13 25 [.int .i64 x] H fun r H' => Keep H H' ∧ r = slotV x := by
  have gT : (H.push (.cells [.int .i64 0, .int .u32 0, .bool false, .slice none 0 0 none, .int .i64 0] 28 true false)).get H.next = some (.cells [.int .i64 0, .int .u32 0, .bool false, .slice none 0 0 none, .int .i64 0] 28 true false) := by simp
  have nT : H.next < (H.push (.cells [.int .i64 0, .int .u32 0, .bool false, .slice none 0 0 none, .int .i64 0] 28 true false)).next := by simp
  have kT : Keep H (H.push (.cells [.int .i64 0, .int .u32 0, .bool false, .slice none 0 0 none, .int .i64 0] 28 true false)) := Upd.rfl.push _
  refine Cl.enter Try.func25 rfl rfl Try.ntmps25 (by simp) ?_
  refine walk none0 ?_
  generalize H.push (.cells [.int .i64 0, .int .u32 0, .bool false, .slice none 0 0 none, .int .i64 0] 28 true false) = H1 at *
  refine (all51_ok H1).mono fun r H2 _ ⟨kA, ea⟩ => ?_
  subst ea
  have gT2 := (kA.get nT).trans gT
  have n2 : H.next < H2.next := Nat.lt_of_lt_of_le nT kA.next
  refine walk gT2 ?_
  exact ⟨(kT.then kA).set _ n2 (by omega), rfl⟩
theorem refFull26_ok (x : Int) (H : Heap) : Cl Try.prog pr13 26 [.int .i64 x] H fun r H' => Keep H H' ∧ r = slotV x := by
  refine Cl.enter Try.func26 rfl rfl Try.ntmps26 (by simp) ?_
  refine walk none0 ?_
  exact ⟨keep_new _ _ _, rfl⟩
theorem same43_ok (H : Heap) : Cl Try.prog pr13 43 [.agg [.bool true, .slice none 0 0 none], .agg [.bool true, .slice none 0 0 none]] H fun r H' => Keep H H' ∧ r = .bool true := by
  have nums : ∀ H : Heap, Cl Try.prog pr13 49 [.slice none 0 0 none, .slice none 0 0 none] H fun r H' => H' = H ∧ r = .bool true := by
    intro H
    refine Cl.enter Try.func49 rfl rfl Try.ntmps49 (by simp) ?_
    refine walk none0 ?_
    refine Wq.loop (fun k e H' => H' = H ∧ e 0 = .slice none 0 0 none ∧ e 5 = .int .i64 0) 0 ?_ ?_
    · exact ⟨rfl, by simp, by simp⟩
    · rintro k e H' ⟨rfl, g0, g5⟩
      refine walk (both g0 g5) ?_
      exact ⟨rfl, rfl⟩
  refine Cl.enter Try.func43 rfl rfl Try.ntmps43 (by simp) ?_
  refine walk none0 ?_
  refine (nums _).mono fun r H1 _ ⟨ea, eb⟩ => ?_
  subst ea; subst eb
  refine walk none0 ?_
  exact ⟨(Upd.rfl.push _).push _, rfl⟩
theorem one18_ok (x : Int) (H : Heap) : Cl Try.prog pr13 18 [slotV x, slotV x] H fun r H' => Keep H H' ∧ r = .bool true := by
  unfold slotV
  refine Cl.enter Try.func18 rfl rfl Try.ntmps18 (by simp) ?_
  refine walk none0 ?_
  refine (same43_ok _).mono fun r H1 _ ⟨kA, ea⟩ => ?_
  subst ea
  refine walk none0 ?_
  exact ⟨((Upd.rfl.push _).push _).then kA, rfl⟩
theorem get36_ok (fd : Int) (H : Heap) : Cl Try.prog pr13 36 [.ptr none, .int .i64 fd] H fun r H' => H' = H ∧ r = .tuple [.ptr none, .int .i64 22] := by
  refine Cl.enter Try.func36 rfl rfl Try.ntmps36 (by simp) ?_
  refine walk none0 ?_
  exact ⟨rfl, rfl⟩
theorem free34_ok (fd : Int) (H : Heap) : Cl Try.prog pr13 34 [.ptr none, .int .i64 fd] H fun r H' => H' = H ∧ r = .tuple [.int .i64 0, .int .i64 22] := by
  refine Cl.enter Try.func34 rfl rfl Try.ntmps34 (by simp) ?_
  refine walk none0 ?_
  exact ⟨rfl, rfl⟩
theorem Free21_ok (fd : Int) (H : Heap) : Cl Try.prog pr13 21 [.ptr none, .int .i64 fd] H fun r H' => H' = H ∧ r = .tuple [.int .i64 0, .int .i64 22] := by
  refine Cl.enter Try.func21 rfl rfl Try.ntmps21 (by simp) ?_
  refine walk none0 ?_
  refine (free34_ok fd H).mono fun r H1 _ ⟨ea, eb⟩ => ?_
  subst ea; subst eb
  refine walk none0 ?_
  exact ⟨rfl, rfl⟩
theorem can33_ok (x : Int) (hx : 0 < x) (H : Heap) : Cl Try.prog pr13 33 [slotV x] H fun r H' => Keep H H' ∧ r = .bool true := by
  have c57 : ∀ H : Heap, Cl Try.prog pr13 57 [.agg [.bool true, .slice none 0 0 none]] H fun r H' => Keep H H' ∧ r = .bool true := by
    intro H
    refine Cl.enter Try.func57 rfl rfl Try.ntmps57 (by simp) ?_
    refine walk none0 ?_
    exact ⟨Upd.rfl.push _, rfl⟩
  have c53 : ∀ H : Heap, Cl Try.prog pr13 53 [.agg [.bool true, .slice none 0 0 none]] H fun r H' => Keep H H' ∧ r = .bool true := by
    intro H
    refine Cl.enter Try.func53 rfl rfl Try.ntmps53 (by simp) ?_
    refine walk none0 ?_
    refine (c57 _).mono fun r H1 _ ⟨kA, ea⟩ => ?_
    subst ea
    refine walk none0 ?_
    exact ⟨(Upd.rfl.push _).then kA, rfl⟩
  have hw : IntKind.i64.wrap (((120 % 2 ^ IntKind.i64.bits &&& 2 ^ IntKind.i64.bits - 1 - 120 % 2 ^ IntKind.i64.bits : Nat)) : Int) = 0 := by decide
  unfold slotV
  have gT : (H.push (.cells [.int .i64 x, .int .u32 4294967295, .bool true, .slice none 0 0 none, .int .i64 120] 28 true false)).get H.next = some (.cells [.int .i64 x, .int .u32 4294967295, .bool true, .slice none 0 0 none, .int .i64 120] 28 true false) := by simp
  have nT : H.next < (H.push (.cells [.int .i64 x, .int .u32 4294967295, .bool true, .slice none 0 0 none, .int .i64 120] 28 true false)).next := by simp
  have kT : Keep H (H.push (.cells [.int .i64 x, .int .u32 4294967295, .bool true, .slice none 0 0 none, .int .i64 120] 28 true false)) := Upd.rfl.push _
  refine Cl.enter Try.func33 rfl rfl Try.ntmps33 (by simp) ?_
  refine walk hx ?_
  generalize H.push (.cells [.int .i64 x, .int .u32 4294967295, .bool true, .slice none 0 0 none, .int .i64 120] 28 true false) = H1 at *
  refine (c53 H1).mono fun r H2 _ ⟨kA, ea⟩ => ?_
  subst ea
  have gT2 := (kA.get nT).trans gT
  refine walk (both gT2 hw) ?_
  trace_state
  exact ⟨kT.then kA, rfl⟩
end Go.Abs

/- Chapter 13: SlotsNews, walked: tables. -/
namespace Go.Abs
open Go.Proofs
set_option maxRecDepth 100000
set_option linter.unusedVariables false
set_option linter.unusedSimpArgs false

def zeroS : AV := .agg [.int .i64 0, .int .u32 0, .bool false, .slice none 0 0 none, .int .i64 0]
theorem get12_nil (fd : Int) (H : Heap) : Cl Try.prog pr13 12 [.ptr none, .int .i64 fd, .int .u32 0] H fun r H' => Keep H H' ∧ r = .tuple [zeroS, .int .i64 22] := by
  refine Cl.enter Try.func12 rfl rfl Try.ntmps12 (by simp) ?_
  refine walk none0 ?_
  refine (get36_ok fd _).mono fun r H1 _ ⟨ea, eb⟩ => ?_
  subst ea; subst eb
  refine walk none0 ?_
  exact ⟨keep_new _ _ _, rfl⟩
theorem put11_nil (fd : Int) (H : Heap) : Cl Try.prog pr13 11 [.ptr none, .int .i64 fd, slotV 1] H fun r H' => Keep H H' ∧ r = .tuple [.int .i64 0, .int .i64 22] := by
  have hc := can33_ok 1 (by omega)
  unfold slotV at *
  refine Cl.enter Try.func11 rfl rfl Try.ntmps11 (by simp) ?_
  refine walk none0 ?_
  refine (hc _).mono fun r H1 _ ⟨kA, ea⟩ => ?_
  subst ea
  refine walk none0 ?_
  refine (free34_ok fd _).mono fun r H2 _ ⟨ea, eb⟩ => ?_
  subst ea; subst eb
  refine walk none0 ?_
  exact ⟨(Upd.rfl.push _).then kA, rfl⟩
theorem set29_nil (fd : Int) (H : Heap) : Cl Try.prog pr13 29 [.ptr none, .int .i64 fd, slotV 1] H fun r H' => r = .tuple [zeroS, .bool false, .int .i64 22] := by
  unfold slotV
  refine Cl.enter Try.func29 rfl rfl Try.ntmps29 (by simp) ?_
  refine walk none0 ?_
  rfl
theorem take30_nil (fd : Int) (H : Heap) : Cl Try.prog pr13 30 [.ptr none, .int .i64 fd] H fun r H' => r = .tuple [zeroS, .int .i64 22] := by
  refine Cl.enter Try.func30 rfl rfl Try.ntmps30 (by simp) ?_
  refine walk none0 ?_
  refine (get36_ok fd _).mono fun r H1 _ ⟨ea, eb⟩ => ?_
  subst ea; subst eb
  refine walk none0 ?_
  rfl
theorem limit14_nil (fd : Int) (H : Heap) : Cl Try.prog pr13 14 [.ptr none, .int .i64 fd, .int .u32 0] H fun r H' => r = .int .i64 22 := by
  refine Cl.enter Try.func14 rfl rfl Try.ntmps14 (by simp) ?_
  refine walk none0 ?_
  refine (get36_ok fd _).mono fun r H1 _ ⟨ea, eb⟩ => ?_
  subst ea; subst eb
  refine walk none0 ?_
  rfl
theorem limit15_nil (fd : Int) (H : Heap) : Cl Try.prog pr13 15 [.ptr none, .int .i64 fd, .slice none 0 0 none] H fun r H' => r = .int .i64 22 := by
  refine Cl.enter Try.func15 rfl rfl Try.ntmps15 (by simp) ?_
  refine walk none0 ?_
  refine (get36_ok fd _).mono fun r H1 _ ⟨ea, eb⟩ => ?_
  subst ea; subst eb
  refine walk none0 ?_
  rfl
theorem limit16_nil (fd : Int) (H : Heap) : Cl Try.prog pr13 16 [.ptr none, .int .i64 fd, .int .i64 0] H fun r H' => r = .int .i64 22 := by
  refine Cl.enter Try.func16 rfl rfl Try.ntmps16 (by simp) ?_
  refine walk none0 ?_
  refine (get36_ok fd _).mono fun r H1 _ ⟨ea, eb⟩ => ?_
  subst ea; subst eb
  refine walk none0 ?_
  rfl
theorem room27_nil (H : Heap) : Cl Try.prog pr13 27 [.ptr none] H fun r H' => r = .int .i64 0 := by
  refine Cl.enter Try.func27 rfl rfl Try.ntmps27 (by simp) ?_
  refine walk none0 ?_
  rfl
theorem all28_nil (H : Heap) : Cl Try.prog pr13 28 [.ptr none] H fun r H' => r = .slice none 0 0 none := by
  refine Cl.enter Try.func28 rfl rfl Try.ntmps28 (by simp) ?_
  refine walk none0 ?_
  rfl
theorem clone24_nil (H : Heap) : Cl Try.prog pr13 24 [.ptr none] H fun r H' => r = .ptr none := by
  refine Cl.enter Try.func24 rfl rfl Try.ntmps24 (by simp) ?_
  refine walk none0 ?_
  rfl
/-- A table with no descriptor. -/
def TabN (H : Heap) (p b n : Nat) : Prop := p < H.next ∧ b < H.next ∧ H.get p = some (.cells [.slice (some (b, 0)) n n none] 67 true false) ∧ H.get b = some (.cells (List.replicate n (.ptr none)) 71 true false)
theorem TabN.kept {H H' : Heap} {p b n : Nat} (h : TabN H p b n) (k : Keep H H') : TabN H' p b n :=
  ⟨Nat.lt_of_lt_of_le h.1 k.next, Nat.lt_of_lt_of_le h.2.1 k.next, (k.get h.1).trans h.2.2.1, (k.get h.2.1).trans h.2.2.2⟩
theorem zeros_ptr : ∀ n, zeros [.ptr none] n = List.replicate n (.ptr none)
  | 0 => rfl
  | n + 1 => by rw [List.replicate_succ]; simp only [zeros, List.cons_append, List.nil_append]; rw [zeros_ptr n]
theorem make65 (n : Nat) (hn : n ≤ 64) (H : Heap) : makeSliceR Try.prog 65 (some (.int .i64 n)) (some (.int .i64 n)) H = some (.slice (some (H.next, 0)) n n none, H.push (.cells (List.replicate n (.ptr none)) 71 true false)) := by
  have h : elemF Try.prog 65 = some (71, 8, 1, [.ptr none]) := by kernel_rfl
  rw [makeSliceR_eq h (by omega), zeros_ptr, Int.toNat_natCast]
theorem new8_ok (n : Nat) (h1 : 1 ≤ n) (h2 : n ≤ 64) (H : Heap) : Cl Try.prog pr13 8 [.int .i64 n] H fun r H' => ∃ p b, r = .ptr (some (p, 0)) ∧ TabN H' p b n := by
  have hmk := make65 n h2
  have a1 : ¬ (n : Int) < 1 := by omega
  have a2 : ¬ 64 < (n : Int) := by omega
  refine Cl.enter Try.func8 rfl rfl Try.ntmps8 (by simp) ?_
  generalize hR : List.replicate n (AV.ptr none) = R at *
  refine walk (both a1 (both a2 hmk)) ?_
  refine ⟨_, H.next, rfl, ?_, ?_, ?_, ?_⟩
  · simp
  · simp; omega
  · simp
  · rw [hR]; simp (disch := omega) [ineg]
theorem new8_no (z : Int) (h : z < 1 ∨ 64 < z) (H : Heap) : Cl Try.prog pr13 8 [.int .i64 z] H fun r H' => r = .ptr none := by
  refine Cl.enter Try.func8 rfl rfl Try.ntmps8 (by simp) ?_
  rcases h with h | h
  · refine walk h ?_
    rfl
  · have h1 : ¬ z < 1 := by omega
    refine walk (both h1 h) ?_
    rfl
theorem all28_ok {H : Heap} {p b n : Nat} (h : TabN H p b n) (hn : n ≤ 64) : Cl Try.prog pr13 28 [.ptr (some (p, 0))] H fun r H' => H' = H ∧ r = .slice none 0 0 none := by
  obtain ⟨_, _, h1, h2⟩ := h
  have hr : ∀ i, i < n → (List.replicate n (AV.ptr none))[i]? = some (.ptr none) := fun i hi => by simp [hi]
  have hrl : (List.replicate n (AV.ptr none)).length = n := by simp
  generalize List.replicate n (AV.ptr none) = R at *
  refine Cl.enter Try.func28 rfl rfl Try.ntmps28 (by simp) ?_
  refine walk h1 ?_
  refine Wq.loop (fun m e H' => ∃ i : Nat, i ≤ n ∧ m = n - i ∧ H' = H ∧ e 3 = .slice none 0 0 none ∧ e 11 = .slice (some (b, 0)) n n none ∧ e 12 = .int .i64 n ∧ e 13 = .int .i64 i) n ?_ ?_
  · exact ⟨0, by omega, by omega, rfl, by simp, by simp, by simp, by simp⟩
  · rintro m e H' ⟨i, hi, rfl, rfl, g3, g11, g12, g13⟩
    by_cases hlt : i < n
    · have hri := hr i hlt
      have hil : i < R.length := by omega
      have hlI : (i : Int) < n := by omega
      refine walk (both g3 (both g11 (both g12 (both g13 (both hlt (both hlI (both h2 (both hri hil)))))))) ?_
      exact Roundq.normal (n - (i + 1)) (by omega) ⟨i + 1, by omega, rfl, rfl, by simp [g3], by simp [g11], by simp [g12], by simp⟩
    · obtain rfl : i = n := by omega
      refine walk (both g3 (both g11 (both g12 g13))) ?_
      exact ⟨rfl, rfl⟩
theorem room27_ok {H : Heap} {p b n : Nat} (h : TabN H p b n) (hn : n ≤ 64) : Cl Try.prog pr13 27 [.ptr (some (p, 0))] H fun r H' => H' = H ∧ r = .int .i64 n := by
  have h1 := h.2.2.1
  refine Cl.enter Try.func27 rfl rfl Try.ntmps27 (by simp) ?_
  refine walk none0 ?_
  refine Wq.regionM [(5, 0), (6, 0), (0, 0), (1, 0), (2, 0), (3, 2), (4, 0), (7, 0), (8, 0), (9, 0)] (by kernel_rfl) ?_
  refine mwalk none0 ?_
  refine (all28_ok h hn).mono fun r H1 _ ⟨ea, eb⟩ => ?_
  subst ea; subst eb
  refine mwalk h1 ?_
  refine walk none0 ?_
  exact ⟨rfl, rfl⟩
end Go.Abs

/- Chapter 13: SlotsNews. -/
namespace Go.Abs
open Go.Proofs
set_option maxRecDepth 100000
set_option linter.unusedVariables false
set_option linter.unusedSimpArgs false

theorem slotsNews_main (most fd : Int) (H : Heap) : Cl Try.prog pr13 7 [.int .i64 most, .int .i64 fd] H fun r _ => r = .bool true := by
  by_cases hm : 1 ≤ most ∧ most ≤ 64
  · obtain ⟨n, rfl⟩ : ∃ n : Nat, most = n := ⟨most.toNat, by omega⟩
    have h1 : 1 ≤ n := by omega
    have h2 : n ≤ 64 := by omega
    have h1I : 1 ≤ (n : Int) := hm.1
    have h2I : (n : Int) ≤ 64 := hm.2
    refine Cl.enter Try.func7 rfl rfl Try.ntmps7 (by simp) ?_
    refine walk none0 ?_
    refine (new8_ok n h1 h2 H).mono fun r H1 _ ⟨p, b, ea, ht⟩ => ?_
    subst ea
    refine walk none0 ?_
    refine (full25_ok fd H1).mono fun r H2 _ ⟨k2, ea⟩ => ?_
    subst ea
    refine walk none0 ?_
    refine (refFull26_ok fd H2).mono fun r H3 _ ⟨k3, ea⟩ => ?_
    subst ea
    have ho := one18_ok fd H3
    generalize slotV fd = sv at *
    refine walk none0 ?_
    refine ho.mono fun r H4 _ ⟨k4, ea⟩ => ?_
    subst ea
    have ht4 := ht.kept ((k2.then k3).then k4)
    refine walk (both h1I h2I) ?_
    refine (room27_ok ht4 h2).mono fun r H5 _ ⟨ea, eb⟩ => ?_
    subst ea; subst eb
    refine walk none0 ?_
    refine (all28_ok ht4 h2).mono fun r H6 _ ⟨ea, eb⟩ => ?_
    subst ea; subst eb
    refine walk none0 ?_
    refine (lives_ok _).mono fun r H7 _ ⟨ea, eb⟩ => ?_
    subst ea; subst eb
    refine walk none0 ?_
    rfl
  · have hno : most < 1 ∨ 64 < most := by omega
    refine Cl.enter Try.func7 rfl rfl Try.ntmps7 (by simp) ?_
    refine walk none0 ?_
    refine (new8_no most hno H).mono fun r H1 _ ea => ?_
    subst ea
    refine walk none0 ?_
    refine (full25_ok fd H1).mono fun r H2 _ ⟨k2, ea⟩ => ?_
    subst ea
    refine walk none0 ?_
    refine (refFull26_ok fd H2).mono fun r H3 _ ⟨k3, ea⟩ => ?_
    subst ea
    have ho := one18_ok fd H3
    generalize slotV fd = sv at *
    refine walk none0 ?_
    refine ho.mono fun r H4 _ ⟨k4, ea⟩ => ?_
    subst ea
    rcases hno with h | h
    · have h' : ¬ 1 ≤ most := by omega
      refine walk h' ?_
      refine (get12_nil fd H4).mono fun r H5 _ ⟨_, ea⟩ => ?_
      unfold zeroS at ea
      subst ea
      refine walk none0 ?_
      refine (Free21_ok fd _).mono fun r H6 _ ⟨ea, eb⟩ => ?_
      subst ea; subst eb
      refine walk none0 ?_
      refine (full25_ok 1 _).mono fun r H7 _ ⟨_, ea⟩ => ?_
      subst ea
      have hp := put11_nil fd H7
      have hs := fun H => set29_nil fd H
      generalize hsv1 : slotV 1 = sv1 at *
      refine walk none0 ?_
      refine hp.mono fun r H8 _ ⟨_, ea⟩ => ?_
      subst ea
      refine walk none0 ?_
      refine (full25_ok 1 _).mono fun r H9 _ ⟨_, ea⟩ => ?_
      rw [hsv1] at ea
      subst ea
      refine walk none0 ?_
      refine (hs _).mono fun r H10 _ ea => ?_
      unfold zeroS at ea
      subst ea
      refine walk none0 ?_
      refine (take30_nil fd _).mono fun r H11 _ ea => ?_
      unfold zeroS at ea
      subst ea
      refine walk none0 ?_
      refine (limit14_nil fd _).mono fun r H12 _ ea => ?_
      subst ea
      refine walk none0 ?_
      refine (limit15_nil fd _).mono fun r H13 _ ea => ?_
      subst ea
      refine walk none0 ?_
      refine (limit16_nil fd _).mono fun r H14 _ ea => ?_
      subst ea
      refine walk none0 ?_
      refine (room27_nil _).mono fun r H15 _ ea => ?_
      subst ea
      refine walk none0 ?_
      refine (all28_nil _).mono fun r H16 _ ea => ?_
      subst ea
      refine walk none0 ?_
      refine (clone24_nil _).mono fun r H17 _ ea => ?_
      subst ea
      refine walk none0 ?_
      refine (lives_ok _).mono fun r H18 _ ⟨ea, eb⟩ => ?_
      subst ea; subst eb
      refine walk none0 ?_
      rfl
    · have h' : 1 ≤ most := by omega
      have h'' : ¬ most ≤ 64 := by omega
      refine walk (both h' h'') ?_
      refine (get12_nil fd H4).mono fun r H5 _ ⟨_, ea⟩ => ?_
      unfold zeroS at ea
      subst ea
      refine walk none0 ?_
      refine (Free21_ok fd _).mono fun r H6 _ ⟨ea, eb⟩ => ?_
      subst ea; subst eb
      refine walk none0 ?_
      refine (full25_ok 1 _).mono fun r H7 _ ⟨_, ea⟩ => ?_
      subst ea
      have hp := put11_nil fd H7
      have hs := fun H => set29_nil fd H
      generalize hsv1 : slotV 1 = sv1 at *
      refine walk none0 ?_
      refine hp.mono fun r H8 _ ⟨_, ea⟩ => ?_
      subst ea
      refine walk none0 ?_
      refine (full25_ok 1 _).mono fun r H9 _ ⟨_, ea⟩ => ?_
      rw [hsv1] at ea
      subst ea
      refine walk none0 ?_
      refine (hs _).mono fun r H10 _ ea => ?_
      unfold zeroS at ea
      subst ea
      refine walk none0 ?_
      refine (take30_nil fd _).mono fun r H11 _ ea => ?_
      unfold zeroS at ea
      subst ea
      refine walk none0 ?_
      refine (limit14_nil fd _).mono fun r H12 _ ea => ?_
      subst ea
      refine walk none0 ?_
      refine (limit15_nil fd _).mono fun r H13 _ ea => ?_
      subst ea
      refine walk none0 ?_
      refine (limit16_nil fd _).mono fun r H14 _ ea => ?_
      subst ea
      refine walk none0 ?_
      refine (room27_nil _).mono fun r H15 _ ea => ?_
      subst ea
      refine walk none0 ?_
      refine (all28_nil _).mono fun r H16 _ ea => ?_
      subst ea
      refine walk none0 ?_
      refine (clone24_nil _).mono fun r H17 _ ea => ?_
      subst ea
      refine walk none0 ?_
      refine (lives_ok _).mono fun r H18 _ ⟨ea, eb⟩ => ?_
      subst ea; subst eb
      refine walk none0 ?_
      rfl
end Go.Abs

/- The seat's own facts for its rows. -/
namespace Go.Proofs.Ytkeenmalbkcjnaa
open Go.ChangeShapes Go.WideShapes Go.ChangeAt Go.RowKit Go.Abs
set_option linter.unusedVariables false
set_option maxRecDepth 100000

theorem own : ownKnob Try.prog.godebug = none := by kernel_rfl
theorem laidOut : laidOutB Try.prog = true := by kernel_rfl
theorem mixed : Try.prog.follows .mixedOrders = true := by kernel_rfl
theorem plainN : plainNames Try.prog = true := by kernel_rfl
theorem run10 : ((acall Try.prog noPrims 40 10 [] (Heap.start Try.prog.globals.size)).map fun r => sameAV r.1 (.bool true)) = some true := by kernel_rfl
theorem runs10 : ∃ n H', acall Try.prog noPrims n 10 [] (Heap.start Try.prog.globals.size) = some (.bool true, H') := runs_of run10
theorem primsOk : PrimsOk Try.prog pr13 := by
  refine closedPrims_ok mixed plainN fun p hp => ?_
  simp at hp
  subst hp
  exact ⟨rfl, runs10⟩
theorem primsRl : PrimsRl pr13 := closedPrims_rl _
end Go.Proofs.Ytkeenmalbkcjnaa

/- SlotsNews: the row. -/
namespace Go.Proofs.Ytkeenmalbkcjnaa
open Go.ChangeShapes Go.WideShapes Go.ChangeAt Go.RowKit Go.Abs
set_option linter.unusedVariables false
set_option maxRecDepth 100000

theorem slotsNewsMain (H : Heap) (xs : List AV) (hG : Try.prog.globals.size ≤ H.next) (hw : Wf H) (h : PicAll Try.prog H 3 [3, 3] xs) : CallsA Try.prog pr13 7 xs H fun v _ => v = .bool true := by
  obtain ⟨a0, r0, rfl, h0, a1, r1, rfl, h1, hend⟩ := h
  obtain rfl : r1 = [] := hend
  refine Cl.callsA primsRl hw ?_
  obtain ⟨z0, rfl, w0⟩ := picV_i64 Try.underlying3 h0
  obtain ⟨z1, rfl, w1⟩ := picV_i64 Try.underlying3 h1
  exact slotsNews_main z0 z1 H

theorem slotsNewsLifted (os : Os) (started : os.Started) (H : Type) (enc : TypeId × Value → H) :
    ReturnsInHanded {} Try.checked os 7 .any (Rows.slotsNewsSpec.pre6 enc Try.prog Try.f7 Rows.slotsNewsRow.domain false) (Rows.slotsNewsSpec.post enc Try.prog Try.f7 false true false false) := by
  refine returnsInHanded_of_change (C := Try.checked) own started (by kernel_rfl) Try.func7
    (ChangeSpec.witness6 (enc := enc) (C := Try.checked) false ⟨#[], #[.int .i64 0, .int .i64 0], []⟩ 8 (by kernel_rfl) (by kernel_rfl) (by kernel_rfl) (by kernel_rfl)) ?_
  intro W base args ds gs before hval hW hcnd _
  have ep : Try.f7.params.toList = [3, 3] := by kernel_rfl
  refine law_post laidOut rfl (fun ds h => ?_) (tb := 4) (by kernel_rfl) Try.underlying4 ?_ hW (fun p hA => ?_)
  · rw [ep] at h
    match ds, h with
    | [a0, a1], _ => rfl
  · rw [ep]
    intro t ht
    simp at ht
    subst ht; exact ⟨by kernel_rfl, of_decide_eq_true (by kernel_rfl)⟩
  · refine law_calls primsOk mixed plainN Try.func7 rfl (n := 3) (base := base) (ts := Try.f7.params.toList) ?_ ?_ ?_ hA
    · rw [ep]
      intro t ht
      simp at ht
      subst ht; kernel_rfl
    · rw [ep]
      exact slotsNewsMain
    · intro j t v h1 h2
      exact hval j t v (by simpa using h1) (by simpa using h2)

theorem slotsNews : Rows.SlotsNewsSaid :=
  OpenClaim.holds_of_wide 7 Try.f7 rfl rfl rfl rfl rfl rfl rfl ⟨rfl, rfl, rfl, rfl, rfl⟩ rfl rfl rfl rfl rfl (by kernel_rfl) Try.func7 (by kernel_rfl)
    (of_decide_eq_true (by kernel_rfl)) (by unfold Func.isWrapper; first | (rw [if_pos (by decide +kernel)]; kernel_rfl) | (rw [if_neg (by decide +kernel)]; exact ⟨rfl, rfl⟩))
    (fun os started H enc _ => slotsNewsLifted os started H enc)
-- #print axioms slotsNews
end Go.Proofs.Ytkeenmalbkcjnaa
