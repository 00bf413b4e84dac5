/- Texts on this program, joined. -/
import Derived.Test.YtkeenmalbkcjnaaOwn05
import Derived.Test.YtkeenmalbkcjnaaKit06
import Derived.Test.YtkeenmalbkcjnaaKit03
import Derived.Test.YtkeenmalbkcjnaaProg
import Derived.Ground.NamesProg
import Derived.Shelf.Lays
import Derived.KernelRfl

/- Chapter 13: SlotsNews, walked. -/
namespace Go.Abs
open Go.Proofs
set_option maxRecDepth 100000
set_option linter.unusedVariables false
set_option linter.unusedSimpArgs false

def base13 : Prims := sortPrims 62
def pr13 : Prims := orPrims (closedPrims [(10, .bool true)]) base13
theorem lives_ok (H : Heap) : Cl Try.prog pr13 10 [] H fun v H' => v = .bool true ∧ H' = H := Cl.prim (v := .bool true) (H' := H) rfl rfl ⟨rfl, rfl⟩
theorem keep_new (H : Heap) (x y : AObj) : Keep H ((H.push x).set H.next y) := (Upd.rfl.push _).set _ (by simp) (by omega)
def slotV (x : Int) : AV := .agg [.int .i64 x, .int .u32 4294967295, .bool true, .slice none 0 0 none, .int .i64 120]
theorem all51_ok (H : Heap) : Cl Try.prog pr13 51 [] H fun r H' => Keep H H' ∧ r = .agg [.bool true, .slice none 0 0 none] := by
  refine Cl.enter Try.func51 rfl rfl Try.ntmps51 (by simp) ?_
  refine walk none0 ?_
  exact ⟨keep_new _ _ _, rfl⟩
theorem full25_ok (x : Int) (H : Heap) : Cl Try.prog pr13 25 [.int .i64 x] H fun r H' => Keep H H' ∧ r = slotV x := by
  have gT : (H.push (.cells [.int .i64 0, .int .u32 0, .bool false, .slice none 0 0 none, .int .i64 0] 28 true false)).get H.next = some (.cells [.int .i64 0, .int .u32 0, .bool false, .slice none 0 0 none, .int .i64 0] 28 true false) := by simp
  have nT : H.next < (H.push (.cells [.int .i64 0, .int .u32 0, .bool false, .slice none 0 0 none, .int .i64 0] 28 true false)).next := by simp
  have kT : Keep H (H.push (.cells [.int .i64 0, .int .u32 0, .bool false, .slice none 0 0 none, .int .i64 0] 28 true false)) := Upd.rfl.push _
  refine Cl.enter Try.func25 rfl rfl Try.ntmps25 (by simp) ?_
  refine walk none0 ?_
  generalize H.push (.cells [.int .i64 0, .int .u32 0, .bool false, .slice none 0 0 none, .int .i64 0] 28 true false) = H1 at *
  refine (all51_ok H1).mono fun r H2 _ ⟨kA, ea⟩ => ?_
  subst ea
  have gT2 := (kA.get nT).trans gT
  have n2 : H.next < H2.next := Nat.lt_of_lt_of_le nT kA.next
  refine walk gT2 ?_
  exact ⟨(kT.then kA).set _ n2 (by omega), rfl⟩
theorem refFull26_ok (x : Int) (H : Heap) : Cl Try.prog pr13 26 [.int .i64 x] H fun r H' => Keep H H' ∧ r = slotV x := by
  refine Cl.enter Try.func26 rfl rfl Try.ntmps26 (by simp) ?_
  refine walk none0 ?_
  exact ⟨keep_new _ _ _, rfl⟩
theorem same43_ok (H : Heap) : Cl Try.prog pr13 43 [.agg [.bool true, .slice none 0 0 none], .agg [.bool true, .slice none 0 0 none]] H fun r H' => Keep H H' ∧ r = .bool true := by
  have nums : ∀ H : Heap, Cl Try.prog pr13 49 [.slice none 0 0 none, .slice none 0 0 none] H fun r H' => H' = H ∧ r = .bool true := by
    intro H
    refine Cl.enter Try.func49 rfl rfl Try.ntmps49 (by simp) ?_
    refine walk none0 ?_
    refine Wq.loop (fun k e H' => H' = H ∧ e 0 = .slice none 0 0 none ∧ e 5 = .int .i64 0) 0 ?_ ?_
    · exact ⟨rfl, by simp, by simp⟩
    · rintro k e H' ⟨rfl, g0, g5⟩
      refine walk (both g0 g5) ?_
      exact ⟨rfl, rfl⟩
  refine Cl.enter Try.func43 rfl rfl Try.ntmps43 (by simp) ?_
  refine walk none0 ?_
  refine (nums _).mono fun r H1 _ ⟨ea, eb⟩ => ?_
  subst ea; subst eb
  refine walk none0 ?_
  exact ⟨(Upd.rfl.push _).push _, rfl⟩
theorem one18_ok (x : Int) (H : Heap) : Cl Try.prog pr13 18 [slotV x, slotV x] H fun r H' => Keep H H' ∧ r = .bool true := by
  unfold slotV
  refine Cl.enter Try.func18 rfl rfl Try.ntmps18 (by simp) ?_
  refine walk none0 ?_
  refine (same43_ok _).mono fun r H1 _ ⟨kA, ea⟩ => ?_
  subst ea
  refine walk none0 ?_
  exact ⟨((Upd.rfl.push _).push _).then kA, rfl⟩
theorem get36_ok (fd : Int) (H : Heap) : Cl Try.prog pr13 36 [.ptr none, .int .i64 fd] H fun r H' => H' = H ∧ r = .tuple [.ptr none, .int .i64 22] := by
  refine Cl.enter Try.func36 rfl rfl Try.ntmps36 (by simp) ?_
  refine walk none0 ?_
  exact ⟨rfl, rfl⟩
theorem free34_ok (fd : Int) (H : Heap) : Cl Try.prog pr13 34 [.ptr none, .int .i64 fd] H fun r H' => H' = H ∧ r = .tuple [.int .i64 0, .int .i64 22] := by
  refine Cl.enter Try.func34 rfl rfl Try.ntmps34 (by simp) ?_
  refine walk none0 ?_
  exact ⟨rfl, rfl⟩
theorem Free21_ok (fd : Int) (H : Heap) : Cl Try.prog pr13 21 [.ptr none, .int .i64 fd] H fun r H' => H' = H ∧ r = .tuple [.int .i64 0, .int .i64 22] := by
  refine Cl.enter Try.func21 rfl rfl Try.ntmps21 (by simp) ?_
  refine walk none0 ?_
  refine (free34_ok fd H).mono fun r H1 _ ⟨ea, eb⟩ => ?_
  subst ea; subst eb
  refine walk none0 ?_
  exact ⟨rfl, rfl⟩
theorem can33_ok (x : Int) (hx : 0 < x) (H : Heap) : Cl Try.prog pr13 33 [slotV x] H fun r H' => Keep H H' ∧ r = .bool true := by
  have c57 : ∀ H : Heap, Cl Try.prog pr13 57 [.agg [.bool true, .slice none 0 0 none]] H fun r H' => Keep H H' ∧ r = .bool true := by
    intro H
    refine Cl.enter Try.func57 rfl rfl Try.ntmps57 (by simp) ?_
    refine walk none0 ?_
    exact ⟨Upd.rfl.push _, rfl⟩
  have c53 : ∀ H : Heap, Cl Try.prog pr13 53 [.agg [.bool true, .slice none 0 0 none]] H fun r H' => Keep H H' ∧ r = .bool true := by
    intro H
    refine Cl.enter Try.func53 rfl rfl Try.ntmps53 (by simp) ?_
    refine walk none0 ?_
    refine (c57 _).mono fun r H1 _ ⟨kA, ea⟩ => ?_
    subst ea
    refine walk none0 ?_
    exact ⟨(Upd.rfl.push _).then kA, rfl⟩
  have hw : IntKind.i64.wrap (((120 % 2 ^ IntKind.i64.bits &&& 2 ^ IntKind.i64.bits - 1 - 120 % 2 ^ IntKind.i64.bits : Nat)) : Int) = 0 := by decide
  unfold slotV
  have gT : (H.push (.cells [.int .i64 x, .int .u32 4294967295, .bool true, .slice none 0 0 none, .int .i64 120] 28 true false)).get H.next = some (.cells [.int .i64 x, .int .u32 4294967295, .bool true, .slice none 0 0 none, .int .i64 120] 28 true false) := by simp
  have nT : H.next < (H.push (.cells [.int .i64 x, .int .u32 4294967295, .bool true, .slice none 0 0 none, .int .i64 120] 28 true false)).next := by simp
  have kT : Keep H (H.push (.cells [.int .i64 x, .int .u32 4294967295, .bool true, .slice none 0 0 none, .int .i64 120] 28 true false)) := Upd.rfl.push _
  refine Cl.enter Try.func33 rfl rfl Try.ntmps33 (by simp) ?_
  refine walk hx ?_
  generalize H.push (.cells [.int .i64 x, .int .u32 4294967295, .bool true, .slice none 0 0 none, .int .i64 120] 28 true false) = H1 at *
  refine (c53 H1).mono fun r H2 _ ⟨kA, ea⟩ => ?_
  subst ea
  have gT2 := (kA.get nT).trans gT
  refine walk (both gT2 hw) ?_
  trace_state
  exact ⟨kT.then kA, rfl⟩
end Go.Abs

/- Which functions of the program are those of the library. -/
namespace Go.Proofs
set_option linter.unusedVariables false
open Go.Shelf
def Try.lays189_ren : Go.Shelf.Ren := ⟨fun | 189 => 62 | 125 => 70 | 257 => 69 | 128 => 82 | 129 => 83 | 294 => 73 | 295 => 74 | 296 => 75 | 297 => 76 | 298 => 77 | 299 => 78 | 216 => 79 | 300 => 80 | 301 => 81 | 328 => 85 | 329 => 86 | 330 => 87 | 331 => 88 | 332 => 89 | 215 => 90 | 343 => 91 | n => n, fun | 28 => 24 | 3 => 3 | 46 => 94 | 0 => 0 | 51 => 22 | 53 => 113 | 4 => 4 | 183 => 106 | 182 => 105 | 131 => 102 | 5 => 5 | 9 => 9 | 218 => 114 | 222 => 118 | 228 => 120 | 229 => 121 | n => n, fun | n => n⟩
theorem Try.lays189 : Go.Proofs.Lays.n189 Try.prog Try.lays189_ren := {
  mixed := by kernel_rfl
  f125 := Try.func70.trans (congrArg some (by kernel_rfl))
  f128 := Try.func82.trans (congrArg some (by kernel_rfl))
  f129 := Try.func83.trans (congrArg some (by kernel_rfl))
  f189 := Try.func62.trans (congrArg some (by kernel_rfl))
  f215 := Try.func90.trans (congrArg some (by kernel_rfl))
  f216 := Try.func79.trans (congrArg some (by kernel_rfl))
  f257 := Try.func69.trans (congrArg some (by kernel_rfl))
  f294 := Try.func73.trans (congrArg some (by kernel_rfl))
  f295 := Try.func74.trans (congrArg some (by kernel_rfl))
  f296 := Try.func75.trans (congrArg some (by kernel_rfl))
  f297 := Try.func76.trans (congrArg some (by kernel_rfl))
  f298 := Try.func77.trans (congrArg some (by kernel_rfl))
  f299 := Try.func78.trans (congrArg some (by kernel_rfl))
  f300 := Try.func80.trans (congrArg some (by kernel_rfl))
  f301 := Try.func81.trans (congrArg some (by kernel_rfl))
  f328 := Try.func85.trans (congrArg some (by kernel_rfl))
  f329 := Try.func86.trans (congrArg some (by kernel_rfl))
  f330 := Try.func87.trans (congrArg some (by kernel_rfl))
  f331 := Try.func88.trans (congrArg some (by kernel_rfl))
  f332 := Try.func89.trans (congrArg some (by kernel_rfl))
  f343 := Try.func91.trans (congrArg some (by kernel_rfl))
  t0 := Try.underlying0
  a0 := Try.isAgg0
  z0 := Try.sizeOf0
  v0 := Try.zeroValue0
  t3 := Try.underlying3
  a3 := Try.isAgg3
  z3 := Try.sizeOf3
  v3 := Try.zeroValue3
  t4 := Try.underlying4
  a4 := Try.isAgg4
  z4 := Try.sizeOf4
  v4 := Try.zeroValue4
  t5 := Try.underlying5
  a5 := Try.isAgg5
  z5 := Try.sizeOf5
  v5 := Try.zeroValue5
  t9 := Try.underlying9
  a9 := Try.isAgg9
  z9 := Try.sizeOf9
  v9 := Try.zeroValue9
  t28 := Try.underlying24
  a28 := Try.isAgg24
  z28 := Try.sizeOf24
  v28 := Try.zeroValue24
  t46 := Try.underlying94
  a46 := Try.isAgg94
  z46 := Try.sizeOf94
  v46 := Try.zeroValue94
  t51 := Try.underlying22
  a51 := Try.isAgg22
  z51 := Try.sizeOf22
  v51 := Try.zeroValue22
  t53 := Try.underlying113
  a53 := Try.isAgg113
  z53 := Try.sizeOf113
  v53 := Try.zeroValue113
  t131 := Try.underlying102
  a131 := Try.isAgg102
  z131 := Try.sizeOf102
  v131 := Try.zeroValue102
  t182 := Try.underlying105
  a182 := Try.isAgg105
  z182 := Try.sizeOf105
  v182 := Try.zeroValue105
  t183 := Try.underlying106
  a183 := Try.isAgg106
  z183 := Try.sizeOf106
  v183 := Try.zeroValue106
  t218 := Try.underlying114
  a218 := Try.isAgg114
  z218 := Try.sizeOf114
  v218 := Try.zeroValue114
  t222 := Try.underlying118
  a222 := Try.isAgg118
  z222 := Try.sizeOf118
  v222 := Try.zeroValue118
  t228 := Try.underlying120
  a228 := Try.isAgg120
  z228 := Try.sizeOf120
  v228 := Try.zeroValue120
  t229 := Try.underlying121
  a229 := Try.isAgg121
  z229 := Try.sizeOf121
  v229 := Try.zeroValue121 }
end Go.Proofs

/- Chapter 13: what is told by hand is so. -/
namespace Go.Proofs
set_option linter.unusedVariables false
open Go.Shelf Go.Abs
theorem Try.sortOk : PrimsOk Try.prog (sortPrims 62) := sortPrims_ok Try.lays189 (by kernel_rfl) Try.func62 (by kernel_rfl) (by kernel_rfl)
end Go.Proofs

/- Chapter 13: SlotsNews, walked: tables. -/
namespace Go.Abs
open Go.Proofs
set_option maxRecDepth 100000
set_option linter.unusedVariables false
set_option linter.unusedSimpArgs false

def zeroS : AV := .agg [.int .i64 0, .int .u32 0, .bool false, .slice none 0 0 none, .int .i64 0]
theorem get12_nil (fd : Int) (H : Heap) : Cl Try.prog pr13 12 [.ptr none, .int .i64 fd, .int .u32 0] H fun r H' => Keep H H' ∧ r = .tuple [zeroS, .int .i64 22] := by
  refine Cl.enter Try.func12 rfl rfl Try.ntmps12 (by simp) ?_
  refine walk none0 ?_
  refine (get36_ok fd _).mono fun r H1 _ ⟨ea, eb⟩ => ?_
  subst ea; subst eb
  refine walk none0 ?_
  exact ⟨keep_new _ _ _, rfl⟩
theorem put11_nil (fd : Int) (H : Heap) : Cl Try.prog pr13 11 [.ptr none, .int .i64 fd, slotV 1] H fun r H' => Keep H H' ∧ r = .tuple [.int .i64 0, .int .i64 22] := by
  have hc := can33_ok 1 (by omega)
  unfold slotV at *
  refine Cl.enter Try.func11 rfl rfl Try.ntmps11 (by simp) ?_
  refine walk none0 ?_
  refine (hc _).mono fun r H1 _ ⟨kA, ea⟩ => ?_
  subst ea
  refine walk none0 ?_
  refine (free34_ok fd _).mono fun r H2 _ ⟨ea, eb⟩ => ?_
  subst ea; subst eb
  refine walk none0 ?_
  exact ⟨(Upd.rfl.push _).then kA, rfl⟩
theorem set29_nil (fd : Int) (H : Heap) : Cl Try.prog pr13 29 [.ptr none, .int .i64 fd, slotV 1] H fun r H' => r = .tuple [zeroS, .bool false, .int .i64 22] := by
  unfold slotV
  refine Cl.enter Try.func29 rfl rfl Try.ntmps29 (by simp) ?_
  refine walk none0 ?_
  rfl
theorem take30_nil (fd : Int) (H : Heap) : Cl Try.prog pr13 30 [.ptr none, .int .i64 fd] H fun r H' => r = .tuple [zeroS, .int .i64 22] := by
  refine Cl.enter Try.func30 rfl rfl Try.ntmps30 (by simp) ?_
  refine walk none0 ?_
  refine (get36_ok fd _).mono fun r H1 _ ⟨ea, eb⟩ => ?_
  subst ea; subst eb
  refine walk none0 ?_
  rfl
theorem limit14_nil (fd : Int) (H : Heap) : Cl Try.prog pr13 14 [.ptr none, .int .i64 fd, .int .u32 0] H fun r H' => r = .int .i64 22 := by
  refine Cl.enter Try.func14 rfl rfl Try.ntmps14 (by simp) ?_
  refine walk none0 ?_
  refine (get36_ok fd _).mono fun r H1 _ ⟨ea, eb⟩ => ?_
  subst ea; subst eb
  refine walk none0 ?_
  rfl
theorem limit15_nil (fd : Int) (H : Heap) : Cl Try.prog pr13 15 [.ptr none, .int .i64 fd, .slice none 0 0 none] H fun r H' => r = .int .i64 22 := by
  refine Cl.enter Try.func15 rfl rfl Try.ntmps15 (by simp) ?_
  refine walk none0 ?_
  refine (get36_ok fd _).mono fun r H1 _ ⟨ea, eb⟩ => ?_
  subst ea; subst eb
  refine walk none0 ?_
  rfl
theorem limit16_nil (fd : Int) (H : Heap) : Cl Try.prog pr13 16 [.ptr none, .int .i64 fd, .int .i64 0] H fun r H' => r = .int .i64 22 := by
  refine Cl.enter Try.func16 rfl rfl Try.ntmps16 (by simp) ?_
  refine walk none0 ?_
  refine (get36_ok fd _).mono fun r H1 _ ⟨ea, eb⟩ => ?_
  subst ea; subst eb
  refine walk none0 ?_
  rfl
theorem room27_nil (H : Heap) : Cl Try.prog pr13 27 [.ptr none] H fun r H' => r = .int .i64 0 := by
  refine Cl.enter Try.func27 rfl rfl Try.ntmps27 (by simp) ?_
  refine walk none0 ?_
  rfl
theorem all28_nil (H : Heap) : Cl Try.prog pr13 28 [.ptr none] H fun r H' => r = .slice none 0 0 none := by
  refine Cl.enter Try.func28 rfl rfl Try.ntmps28 (by simp) ?_
  refine walk none0 ?_
  rfl
theorem clone24_nil (H : Heap) : Cl Try.prog pr13 24 [.ptr none] H fun r H' => r = .ptr none := by
  refine Cl.enter Try.func24 rfl rfl Try.ntmps24 (by simp) ?_
  refine walk none0 ?_
  rfl
/-- A table with no descriptor. -/
def TabN (H : Heap) (p b n : Nat) : Prop := p < H.next ∧ b < H.next ∧ H.get p = some (.cells [.slice (some (b, 0)) n n none] 67 true false) ∧ H.get b = some (.cells (List.replicate n (.ptr none)) 71 true false)
theorem TabN.kept {H H' : Heap} {p b n : Nat} (h : TabN H p b n) (k : Keep H H') : TabN H' p b n :=
  ⟨Nat.lt_of_lt_of_le h.1 k.next, Nat.lt_of_lt_of_le h.2.1 k.next, (k.get h.1).trans h.2.2.1, (k.get h.2.1).trans h.2.2.2⟩
theorem zeros_ptr : ∀ n, zeros [.ptr none] n = List.replicate n (.ptr none)
  | 0 => rfl
  | n + 1 => by rw [List.replicate_succ]; simp only [zeros, List.cons_append, List.nil_append]; rw [zeros_ptr n]
theorem make65 (n : Nat) (hn : n ≤ 64) (H : Heap) : makeSliceR Try.prog 65 (some (.int .i64 n)) (some (.int .i64 n)) H = some (.slice (some (H.next, 0)) n n none, H.push (.cells (List.replicate n (.ptr none)) 71 true false)) := by
  have h : elemF Try.prog 65 = some (71, 8, 1, [.ptr none]) := by kernel_rfl
  rw [makeSliceR_eq h (by omega), zeros_ptr, Int.toNat_natCast]
theorem new8_ok (n : Nat) (h1 : 1 ≤ n) (h2 : n ≤ 64) (H : Heap) : Cl Try.prog pr13 8 [.int .i64 n] H fun r H' => ∃ p b, r = .ptr (some (p, 0)) ∧ TabN H' p b n := by
  have hmk := make65 n h2
  have a1 : ¬ (n : Int) < 1 := by omega
  have a2 : ¬ 64 < (n : Int) := by omega
  refine Cl.enter Try.func8 rfl rfl Try.ntmps8 (by simp) ?_
  generalize hR : List.replicate n (AV.ptr none) = R at *
  refine walk (both a1 (both a2 hmk)) ?_
  refine ⟨_, H.next, rfl, ?_, ?_, ?_, ?_⟩
  · simp
  · simp; omega
  · simp
  · rw [hR]; simp (disch := omega) [ineg]
theorem new8_no (z : Int) (h : z < 1 ∨ 64 < z) (H : Heap) : Cl Try.prog pr13 8 [.int .i64 z] H fun r H' => r = .ptr none := by
  refine Cl.enter Try.func8 rfl rfl Try.ntmps8 (by simp) ?_
  rcases h with h | h
  · refine walk h ?_
    rfl
  · have h1 : ¬ z < 1 := by omega
    refine walk (both h1 h) ?_
    rfl
theorem all28_ok {H : Heap} {p b n : Nat} (h : TabN H p b n) (hn : n ≤ 64) : Cl Try.prog pr13 28 [.ptr (some (p, 0))] H fun r H' => H' = H ∧ r = .slice none 0 0 none := by
  obtain ⟨_, _, h1, h2⟩ := h
  have hr : ∀ i, i < n → (List.replicate n (AV.ptr none))[i]? = some (.ptr none) := fun i hi => by simp [hi]
  have hrl : (List.replicate n (AV.ptr none)).length = n := by simp
  generalize List.replicate n (AV.ptr none) = R at *
  refine Cl.enter Try.func28 rfl rfl Try.ntmps28 (by simp) ?_
  refine walk h1 ?_
  refine Wq.loop (fun m e H' => ∃ i : Nat, i ≤ n ∧ m = n - i ∧ H' = H ∧ e 3 = .slice none 0 0 none ∧ e 11 = .slice (some (b, 0)) n n none ∧ e 12 = .int .i64 n ∧ e 13 = .int .i64 i) n ?_ ?_
  · exact ⟨0, by omega, by omega, rfl, by simp, by simp, by simp, by simp⟩
  · rintro m e H' ⟨i, hi, rfl, rfl, g3, g11, g12, g13⟩
    by_cases hlt : i < n
    · have hri := hr i hlt
      have hil : i < R.length := by omega
      have hlI : (i : Int) < n := by omega
      refine walk (both g3 (both g11 (both g12 (both g13 (both hlt (both hlI (both h2 (both hri hil)))))))) ?_
      exact Roundq.normal (n - (i + 1)) (by omega) ⟨i + 1, by omega, rfl, rfl, by simp [g3], by simp [g11], by simp [g12], by simp⟩
    · obtain rfl : i = n := by omega
      refine walk (both g3 (both g11 (both g12 g13))) ?_
      exact ⟨rfl, rfl⟩
theorem room27_ok {H : Heap} {p b n : Nat} (h : TabN H p b n) (hn : n ≤ 64) : Cl Try.prog pr13 27 [.ptr (some (p, 0))] H fun r H' => H' = H ∧ r = .int .i64 n := by
  have h1 := h.2.2.1
  refine Cl.enter Try.func27 rfl rfl Try.ntmps27 (by simp) ?_
  refine walk none0 ?_
  refine Wq.regionM [(5, 0), (6, 0), (0, 0), (1, 0), (2, 0), (3, 2), (4, 0), (7, 0), (8, 0), (9, 0)] (by kernel_rfl) ?_
  refine mwalk none0 ?_
  refine (all28_ok h hn).mono fun r H1 _ ⟨ea, eb⟩ => ?_
  subst ea; subst eb
  refine mwalk h1 ?_
  refine walk none0 ?_
  exact ⟨rfl, rfl⟩
end Go.Abs

/- Chapter 13: SlotsNews. -/
namespace Go.Abs
open Go.Proofs
set_option maxRecDepth 100000
set_option linter.unusedVariables false
set_option linter.unusedSimpArgs false

theorem slotsNews_main (most fd : Int) (H : Heap) : Cl Try.prog pr13 7 [.int .i64 most, .int .i64 fd] H fun r _ => r = .bool true := by
  by_cases hm : 1 ≤ most ∧ most ≤ 64
  · obtain ⟨n, rfl⟩ : ∃ n : Nat, most = n := ⟨most.toNat, by omega⟩
    have h1 : 1 ≤ n := by omega
    have h2 : n ≤ 64 := by omega
    have h1I : 1 ≤ (n : Int) := hm.1
    have h2I : (n : Int) ≤ 64 := hm.2
    refine Cl.enter Try.func7 rfl rfl Try.ntmps7 (by simp) ?_
    refine walk none0 ?_
    refine (new8_ok n h1 h2 H).mono fun r H1 _ ⟨p, b, ea, ht⟩ => ?_
    subst ea
    refine walk none0 ?_
    refine (full25_ok fd H1).mono fun r H2 _ ⟨k2, ea⟩ => ?_
    subst ea
    refine walk none0 ?_
    refine (refFull26_ok fd H2).mono fun r H3 _ ⟨k3, ea⟩ => ?_
    subst ea
    have ho := one18_ok fd H3
    generalize slotV fd = sv at *
    refine walk none0 ?_
    refine ho.mono fun r H4 _ ⟨k4, ea⟩ => ?_
    subst ea
    have ht4 := ht.kept ((k2.then k3).then k4)
    refine walk (both h1I h2I) ?_
    refine (room27_ok ht4 h2).mono fun r H5 _ ⟨ea, eb⟩ => ?_
    subst ea; subst eb
    refine walk none0 ?_
    refine (all28_ok ht4 h2).mono fun r H6 _ ⟨ea, eb⟩ => ?_
    subst ea; subst eb
    refine walk none0 ?_
    refine (lives_ok _).mono fun r H7 _ ⟨ea, eb⟩ => ?_
    subst ea; subst eb
    refine walk none0 ?_
    rfl
  · have hno : most < 1 ∨ 64 < most := by omega
    refine Cl.enter Try.func7 rfl rfl Try.ntmps7 (by simp) ?_
    refine walk none0 ?_
    refine (new8_no most hno H).mono fun r H1 _ ea => ?_
    subst ea
    refine walk none0 ?_
    refine (full25_ok fd H1).mono fun r H2 _ ⟨k2, ea⟩ => ?_
    subst ea
    refine walk none0 ?_
    refine (refFull26_ok fd H2).mono fun r H3 _ ⟨k3, ea⟩ => ?_
    subst ea
    have ho := one18_ok fd H3
    generalize slotV fd = sv at *
    refine walk none0 ?_
    refine ho.mono fun r H4 _ ⟨k4, ea⟩ => ?_
    subst ea
    rcases hno with h | h
    · have h' : ¬ 1 ≤ most := by omega
      refine walk h' ?_
      refine (get12_nil fd H4).mono fun r H5 _ ⟨_, ea⟩ => ?_
      unfold zeroS at ea
      subst ea
      refine walk none0 ?_
      refine (Free21_ok fd _).mono fun r H6 _ ⟨ea, eb⟩ => ?_
      subst ea; subst eb
      refine walk none0 ?_
      refine (full25_ok 1 _).mono fun r H7 _ ⟨_, ea⟩ => ?_
      subst ea
      have hp := put11_nil fd H7
      have hs := fun H => set29_nil fd H
      generalize hsv1 : slotV 1 = sv1 at *
      refine walk none0 ?_
      refine hp.mono fun r H8 _ ⟨_, ea⟩ => ?_
      subst ea
      refine walk none0 ?_
      refine (full25_ok 1 _).mono fun r H9 _ ⟨_, ea⟩ => ?_
      rw [hsv1] at ea
      subst ea
      refine walk none0 ?_
      refine (hs _).mono fun r H10 _ ea => ?_
      unfold zeroS at ea
      subst ea
      refine walk none0 ?_
      refine (take30_nil fd _).mono fun r H11 _ ea => ?_
      unfold zeroS at ea
      subst ea
      refine walk none0 ?_
      refine (limit14_nil fd _).mono fun r H12 _ ea => ?_
      subst ea
      refine walk none0 ?_
      refine (limit15_nil fd _).mono fun r H13 _ ea => ?_
      subst ea
      refine walk none0 ?_
      refine (limit16_nil fd _).mono fun r H14 _ ea => ?_
      subst ea
      refine walk none0 ?_
      refine (room27_nil _).mono fun r H15 _ ea => ?_
      subst ea
      refine walk none0 ?_
      refine (all28_nil _).mono fun r H16 _ ea => ?_
      subst ea
      refine walk none0 ?_
      refine (clone24_nil _).mono fun r H17 _ ea => ?_
      subst ea
      refine walk none0 ?_
      refine (lives_ok _).mono fun r H18 _ ⟨ea, eb⟩ => ?_
      subst ea; subst eb
      refine walk none0 ?_
      rfl
    · have h' : 1 ≤ most := by omega
      have h'' : ¬ most ≤ 64 := by omega
      refine walk (both h' h'') ?_
      refine (get12_nil fd H4).mono fun r H5 _ ⟨_, ea⟩ => ?_
      unfold zeroS at ea
      subst ea
      refine walk none0 ?_
      refine (Free21_ok fd _).mono fun r H6 _ ⟨ea, eb⟩ => ?_
      subst ea; subst eb
      refine walk none0 ?_
      refine (full25_ok 1 _).mono fun r H7 _ ⟨_, ea⟩ => ?_
      subst ea
      have hp := put11_nil fd H7
      have hs := fun H => set29_nil fd H
      generalize hsv1 : slotV 1 = sv1 at *
      refine walk none0 ?_
      refine hp.mono fun r H8 _ ⟨_, ea⟩ => ?_
      subst ea
      refine walk none0 ?_
      refine (full25_ok 1 _).mono fun r H9 _ ⟨_, ea⟩ => ?_
      rw [hsv1] at ea
      subst ea
      refine walk none0 ?_
      refine (hs _).mono fun r H10 _ ea => ?_
      unfold zeroS at ea
      subst ea
      refine walk none0 ?_
      refine (take30_nil fd _).mono fun r H11 _ ea => ?_
      unfold zeroS at ea
      subst ea
      refine walk none0 ?_
      refine (limit14_nil fd _).mono fun r H12 _ ea => ?_
      subst ea
      refine walk none0 ?_
      refine (limit15_nil fd _).mono fun r H13 _ ea => ?_
      subst ea
      refine walk none0 ?_
      refine (limit16_nil fd _).mono fun r H14 _ ea => ?_
      subst ea
      refine walk none0 ?_
      refine (room27_nil _).mono fun r H15 _ ea => ?_
      subst ea
      refine walk none0 ?_
      refine (all28_nil _).mono fun r H16 _ ea => ?_
      subst ea
      refine walk none0 ?_
      refine (clone24_nil _).mono fun r H17 _ ea => ?_
      subst ea
      refine walk none0 ?_
      refine (lives_ok _).mono fun r H18 _ ⟨ea, eb⟩ => ?_
      subst ea; subst eb
      refine walk none0 ?_
      rfl
end Go.Abs
