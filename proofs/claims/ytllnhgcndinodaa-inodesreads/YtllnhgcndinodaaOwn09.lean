/- Texts on this program, joined. -/
import Derived.Test.YtllnhgcndinodaaOwn07
import Derived.Test.YtllnhgcndinodaaKit06
import Derived.Test.YtllnhgcndinodaaKit08
import Derived.Test.YtllnhgcndinodaaKit04
import Derived.Test.YtllnhgcndinodaaKit03
import Derived.KernelRfl

/- Chapter 06: what is told by hand. -/
namespace Go.Abs
open Go.Proofs
set_option maxRecDepth 100000
set_option linter.unusedVariables false
set_option linter.unusedSimpArgs false

def i64 (z : Int) : Prop := -9223372036854775808 ≤ z ∧ z ≤ 9223372036854775807
def base06 : Prims := orPrims (allPrims 11 3) (extPrims [(86, ibAV)])
def pr06 : Prims := orPrims (closedPrims [(13, .bool true)]) base06
theorem lives_ok (H : Heap) : Cl Try.prog pr06 13 [] H fun v H' => v = .bool true ∧ H' = H := Cl.prim (v := .bool true) (H' := H) rfl rfl ⟨rfl, rfl⟩
end Go.Abs

/- Chapter 06: what is told by hand is so. -/
namespace Go.Proofs
set_option linter.unusedVariables false
open Go.Shelf Go.Abs
theorem Try.says86 : ExtSays Try.prog 86 ibAV := says_ib Try.func86 (by kernel_rfl) (by kernel_rfl) (by kernel_rfl) (by kernel_rfl)
theorem Try.base06Ok : PrimsOk Try.prog base06 := orPrims_ok Try.allOk (extPrims_ok (by intro p hp; simp at hp; subst hp; exact Try.says86))
theorem Try.base06Rl : PrimsRl base06 := orPrims_rl (allPrims_rl _ _) (extPrims_rl _)
end Go.Proofs

/- Chapter 06: small functions, walked. -/
namespace Go.Abs
open Go.Proofs
set_option maxRecDepth 100000
set_option linter.unusedVariables false
set_option linter.unusedSimpArgs false

theorem size_some (p r : Nat) (size : Int) (H : Heap) (h : H.get p = some (.cells [.map (some r), .int .i64 size] 107 true false)) :
    Cl Try.prog pr06 37 [.ptr (some (p, 0))] H fun v H' => v = .int .i64 size ∧ H' = H := by
  refine Cl.enter Try.func37 rfl rfl Try.ntmps37 (by simp) ?_
  refine walk h ?_
  exact ⟨rfl, rfl⟩

theorem has_some (p r : Nat) (size n : Int) (l : List (Int × Nat)) (H : Heap) (h : H.get p = some (.cells [.map (some r), .int .i64 size] 107 true false)) (hr : H.get r = some (.map (imap .i64 (pm ptrTo l)))) :
    Cl Try.prog pr06 48 [.ptr (some (p, 0)), .int .i64 n] H fun v H' => v = .bool (iget n l).isSome ∧ H' = H := by
  refine Cl.enter Try.func48 rfl rfl Try.ntmps48 (by simp) ?_
  refine walk (both h hr) ?_
  simp

theorem blocks_some (p r : Nat) (size : Int) (l : List (Int × Nat)) (H : Heap) (h : H.get p = some (.cells [.map (some r), .int .i64 size] 107 true false)) (hr : H.get r = some (.map (imap .i64 (pm ptrTo l)))) :
    Cl Try.prog pr06 39 [.ptr (some (p, 0))] H fun v H' => v = .int .i64 l.length ∧ H' = H := by
  refine Cl.enter Try.func39 rfl rfl Try.ntmps39 (by simp) ?_
  refine walk (both h hr) ?_
  exact ⟨rfl, rfl⟩

/-! ## the blocks that bytes lie in -/
def spansL : Nat → Int → Int → List (Int × Int × Int)
  | 0, _, _ => []
  | k + 1, off, n => if n ≤ 0 then [] else
    (off / 64, off % 64, off % 64 + min n (64 - off % 64)) :: spansL k (off + min n (64 - off % 64)) (n - min n (64 - off % 64))
def spans (off n : Int) : List (Int × Int × Int) := spansL n.toNat off n
theorem spansL_fuel : ∀ (k : Nat) (off n : Int), 0 ≤ off → n ≤ k → spansL k off n = spans off n := by
  intro k
  induction k using Nat.strongRecOn with
  | ind k ih =>
    intro off n ho hk
    unfold spans
    by_cases hn : n ≤ 0
    · have : n.toNat = 0 := by omega
      rw [this]
      cases k with
      | zero => rfl
      | succ k => simp [spansL, hn]
    · obtain ⟨j, hj⟩ : ∃ j, n.toNat = j + 1 := ⟨n.toNat - 1, by omega⟩
      cases k with
      | zero => omega
      | succ k =>
        rw [hj]
        simp only [spansL, if_neg hn]
        congr 1
        have h1 : 0 ≤ off % 64 ∧ off % 64 < 64 := ⟨by omega, by omega⟩
        rw [ih k (by omega) _ _ (by omega) (by omega)]
        by_cases hjk : j < k + 1
        · rw [ih j (by omega) _ _ (by omega) (by omega)]
        · omega
theorem spans_nil {off n : Int} (h : n ≤ 0) : spans off n = [] := by
  have : n.toNat = 0 := by omega
  simp [spans, this, spansL]
theorem spans_pos {off n : Int} (ho : 0 ≤ off) (h : 0 < n) : spans off n = (off / 64, off % 64, off % 64 + min n (64 - off % 64)) :: spans (off + min n (64 - off % 64)) (n - min n (64 - off % 64)) := by
  obtain ⟨j, hj⟩ : ∃ j, n.toNat = j + 1 := ⟨n.toNat - 1, by omega⟩
  conv => lhs; unfold spans
  rw [hj]
  simp only [spansL, if_neg (by omega : ¬ n ≤ 0)]
  congr 1
  exact spansL_fuel _ _ _ (by omega) (by omega)
def encSpan (x : Int × Int × Int) : List AV := [.int .i64 x.1, .int .i64 x.2.1, .int .i64 x.2.2]

theorem spans_ok (off n : Int) (H : Heap) (ho : 0 ≤ off) (hb : off + n ≤ 100000) :
    Cl Try.prog pr06 62 [.int .i64 off, .int .i64 n] H fun v H' => Fresh H H' 115 3 v (spans off n).length (flat encSpan (spans off n)) := by
  refine Cl.enter Try.func62 rfl rfl Try.ntmps62 (by simp) ?_
  refine walk none0 ?_
  refine Wq.loop (fun m e H' => ∃ (o' n' : Int) (acc : List (Int × Int × Int)) (w : AV), e 0 = .int .i64 o' ∧ e 1 = .int .i64 n' ∧ e 5 = w ∧ 0 ≤ o' ∧ o' + n' ≤ 100000 ∧ m = n'.toNat ∧
    acc ++ spans o' n' = spans off n ∧ acc.length ≤ o' ∧ Fresh H H' 115 3 w acc.length (flat encSpan acc)) n.toNat ?_ ?_
  · exact ⟨off, n, [], .slice none 0 0 none, by simp, by simp, by simp, ho, hb, rfl, rfl, by simpa using ho, Fresh.nil Upd.rfl⟩
  · rintro m e H' ⟨o', n', acc, w, h0, h1, h5, ho', hb', rfl, hacc, hal, hf⟩
    refine walk (both h0 (both h1 h5)) ?_
    by_cases hpos : 0 < n'
    · have hq : 0 ≤ o' % 64 ∧ o' % 64 < 64 := ⟨by omega, by omega⟩
      refine walk (both h0 (both h1 h5)) ?_
      refine Oq.append (own := hf.own.push _) (new := encSpan (o' / 64, o' % 64, o' % 64 + min n' (64 - o' % 64))) (m := 1) (by simp (disch := omega) [h0, h1, h5, encSpan, -getElem?_pos, wrapI64, tdivN, tmodN, ipos, ineg, dpos, dneg, slc_l, slc_h, slc_lh, slc_hm, slc_lhm, slc_0, slcR_some, slcR_none, cutS_ok, cutA_ok, byteAt_ok]; first | done | (repeat' (first | rfl | apply And.intro))) ⟨_, rfl, by simp; first | done | (repeat' (first | rfl | apply And.intro))⟩ rfl (by kernel_rfl) (by kernel_rfl) (by refine ⟨by simp, ?_⟩; simp (disch := omega) [srcCells, cellsAt, h0, h1, h5, encSpan, -getElem?_pos, wrapI64, tdivN, tmodN, ipos, ineg, dpos, dneg, slc_l, slc_h, slc_lh, slc_hm, slc_lhm, slc_0, slcR_some, slcR_none, cutS_ok, cutA_ok, byteAt_ok]; first | done | rfl) (by simp [h0, h1, h5, encSpan]) (by simp [h0, h1, h5, encSpan]) (by omega) (by omega) fun w1 H1 o1 b1 s1 => ?_
      refine walk (both h0 (both h1 h5)) ?_
      refine Roundq.normal (n' - min n' (64 - o' % 64)).toNat (by omega) ⟨o' + min n' (64 - o' % 64), n' - min n' (64 - o' % 64), acc ++ [(o' / 64, o' % 64, o' % 64 + min n' (64 - o' % 64))], w1, by simp, by simp, by simp, by omega, by omega, rfl, ?_, ?_, ?_⟩
      · rw [List.append_assoc, ← hacc, spans_pos ho' hpos]; rfl
      · simp; omega
      · rw [flat_app, flat_one, List.length_append]; exact (hf.push _).app o1 b1 s1
    · have hn0 : n' ≤ 0 := by omega
      rw [spans_nil hn0, List.append_nil] at hacc
      refine walk (both h0 (both h1 h5)) ?_
      subst hacc
      exact hf
end Go.Abs

/- Chapter 06: a file of the program's, need and read. -/
namespace Go.Abs
open Go.Proofs
set_option maxRecDepth 100000
set_option linter.unusedVariables false
set_option linter.unusedSimpArgs false

/-! ## spans, told by their places -/
def cntOf (off n : Int) : Nat := ((off + n + 63) / 64 - off / 64).toNat
theorem spansL_get : ∀ (f : Nat) (off n : Int), 0 ≤ off → 0 < n → n ≤ f → (spansL f off n).length = cntOf off n ∧
    ∀ i : Nat, i < cntOf off n → (spansL f off n)[i]? = some (off / 64 + i, max off (64 * (off / 64 + i)) - 64 * (off / 64 + i), min (off + n) (64 * (off / 64 + i) + 64) - 64 * (off / 64 + i))
  | 0, off, n, ho, hn, hk => by omega
  | f + 1, off, n, ho, hn, hk => by
    unfold spansL
    rw [if_neg (by omega)]
    have hq : 0 ≤ off % 64 ∧ off % 64 < 64 := ⟨by omega, by omega⟩
    have hd : off = 64 * (off / 64) + off % 64 := by omega
    by_cases h : n - min n (64 - off % 64) ≤ 0
    · have e : spansL f (off + min n (64 - off % 64)) (n - min n (64 - off % 64)) = [] := by
        rw [spansL_fuel f _ _ (by omega) (by omega), spans_nil h]
      have c1 : cntOf off n = 1 := by unfold cntOf; omega
      rw [e, c1]
      refine ⟨rfl, fun i hi => ?_⟩
      have : i = 0 := by omega
      subst this
      simp only [List.getElem?_cons_zero, Option.some.injEq, Prod.mk.injEq]
      refine ⟨by omega, by omega, by omega⟩
    · obtain ⟨h1, h2⟩ := spansL_get f (off + min n (64 - off % 64)) (n - min n (64 - off % 64)) (by omega) (by omega) (by omega)
      have c1 : cntOf off n = cntOf (off + min n (64 - off % 64)) (n - min n (64 - off % 64)) + 1 := by unfold cntOf; omega
      refine ⟨by simp [h1, c1], fun i hi => ?_⟩
      cases i with
      | zero =>
        simp only [List.getElem?_cons_zero, Option.some.injEq, Prod.mk.injEq]
        refine ⟨by omega, by omega, by omega⟩
      | succ i =>
        rw [List.getElem?_cons_succ, h2 i (by omega)]
        have e1 : (off + min n (64 - off % 64)) / 64 = off / 64 + 1 := by omega
        simp only [Option.some.injEq, Prod.mk.injEq]
        rw [e1]
        refine ⟨by omega, by omega, by omega⟩
theorem spans_len {off n : Int} (ho : 0 ≤ off) (hn : 0 < n) : (spans off n).length = cntOf off n := (spansL_get _ off n ho hn (by omega)).1
theorem spans_get {off n : Int} (ho : 0 ≤ off) (hn : 0 < n) {i : Nat} (hi : i < cntOf off n) : (spans off n)[i]? = some (off / 64 + i, max off (64 * (off / 64 + i)) - 64 * (off / 64 + i), min (off + n) (64 * (off / 64 + i) + 64) - 64 * (off / 64 + i)) := (spansL_get _ off n ho hn (by omega)).2 i hi

/-! ## a file -/
structure FileR (H : Heap) (p r : Nat) (l : List (Int × Nat)) (bl : Nat → List UInt8) (size : Int) : Prop where
  p0 : H.get p = some (.cells [.map (some r), .int .i64 size] 107 true false)
  r0 : H.get r = some (.map (imap .i64 (pm ptrTo l)))
  once : ionce l
  blk : ∀ k b, (k, b) ∈ l → H.get b = some (.cells (cellsOfBytes (bl b)) 117 true false) ∧ (bl b).length = 64
  inj : ∀ k k' b, (k, b) ∈ l → (k', b) ∈ l → k = k'
def fpF (p r : Nat) (l : List (Int × Nat)) : Nat → Prop := fun b => b = p ∨ b = r ∨ ∃ k, (k, b) ∈ l
theorem FileR.keep {H H' : Heap} {p r : Nat} {l : List (Int × Nat)} {bl : Nat → List UInt8} {size : Int} (h : FileR H p r l bl size) (hg : ∀ b, fpF p r l b → H'.get b = H.get b) : FileR H' p r l bl size :=
  ⟨(hg p (.inl rfl)).trans h.p0, (hg r (.inr (.inl rfl))).trans h.r0, h.once, fun k b hb => ⟨(hg b (.inr (.inr ⟨k, hb⟩))).trans (h.blk k b hb).1, (h.blk k b hb).2⟩, h.inj⟩
theorem FileR.lt {H : Heap} {p r : Nat} {l : List (Int × Nat)} {bl : Nat → List UInt8} {size : Int} (h : FileR H p r l bl size) (hw : Wf H) : ∀ b, fpF p r l b → b < H.next := by
  rintro b (rfl | rfl | ⟨k, hb⟩)
  · exact hw.lt h.p0
  · exact hw.lt h.r0
  · exact hw.lt (h.blk k b hb).1
theorem FileR.upd {H H' : Heap} {p r : Nat} {l : List (Int × Nat)} {bl : Nat → List UInt8} {size : Int} {fp : Nat → Prop} (h : FileR H p r l bl size) (hw : Wf H) (u : Upd fp H H') (hd : ∀ b, fpF p r l b → ¬ fp b) : FileR H' p r l bl size :=
  h.keep fun b hb => u.keep b (h.lt hw b hb) (hd b hb)

/-- The byte at a place: of its block, or 0. -/
def cell (l : List (Int × Nat)) (bl : Nat → List UInt8) (j : Int) : UInt8 := match iget (j / 64) l with
  | some b => (bl b).getD (j % 64).toNat 0
  | none => 0

/-- How many of i blocks from a on are lacking. -/
def lackN (has : Int → Bool) (a : Int) : Nat → Int
  | 0 => 0
  | i + 1 => lackN has a i + if has (a + i) then 0 else 1
theorem lackN_bd (has : Int → Bool) (a : Int) : ∀ i, 0 ≤ lackN has a i ∧ lackN has a i ≤ i
  | 0 => by simp [lackN]
  | i + 1 => by have := lackN_bd has a i; simp only [lackN]; split <;> omega
def needN (has : Int → Bool) (off n : Int) : Int := if off < 0 ∨ n < 1 ∨ off > 65536 ∨ n > 65536 - off then 0 else lackN has (off / 64) (cntOf off n)

theorem need_ok (p r : Nat) (size : Int) (l : List (Int × Nat)) (off n : Int) (hn : -9223372036854775808 ≤ n ∧ n ≤ 9223372036854775807) (hof : -9223372036854775808 ≤ off ∧ off ≤ 9223372036854775807) (H : Heap) (h : H.get p = some (.cells [.map (some r), .int .i64 size] 107 true false)) (hr : H.get r = some (.map (imap .i64 (pm ptrTo l)))) :
    Cl Try.prog pr06 64 [.ptr (some (p, 0)), .int .i64 off, .int .i64 n] H fun v H' => v = .int .i64 (needN (fun k => (iget k l).isSome) off n) ∧ Keep H H' := by
  refine Cl.wf fun hw => ?_
  have hpl := hw.lt h
  have hrl := hw.lt hr
  refine Cl.enter Try.func64 rfl rfl Try.ntmps64 (by simp) ?_
  by_cases hc : off < 0 ∨ n < 1 ∨ off > 65536 ∨ n > 65536 - off
  · have e1 : needN (fun k => (iget k l).isSome) off n = 0 := by unfold needN; rw [if_pos hc]
    rw [e1]
    by_cases c1 : off < 0
    · refine walk none0 ?_
      exact ⟨rfl, Upd.rfl⟩
    by_cases c2 : n < 1
    · refine walk none0 ?_
      exact ⟨rfl, Upd.rfl⟩
    by_cases c3 : off > 65536
    · refine walk none0 ?_
      exact ⟨rfl, Upd.rfl⟩
    refine walk none0 ?_
    exact ⟨rfl, Upd.rfl⟩
  · have e1 : needN (fun k => (iget k l).isSome) off n = lackN (fun k => (iget k l).isSome) (off / 64) (cntOf off n) := by unfold needN; rw [if_neg hc]
    rw [e1]
    have c1 : 0 ≤ off ∧ 0 < n ∧ off + n ≤ 65536 := by omega
    refine walk none0 ?_
    refine (spans_ok off n H (by omega) (by omega)).mono fun v H1 hn1 hf => ?_
    obtain ⟨a, ex, rfl, _⟩ := hf.own.form
    have hlen := spans_len c1.1 c1.2.1
    have hget := fun i => spans_get c1.1 c1.2.1 (i := i)
    have hcb : cntOf off n ≤ 1025 := by unfold cntOf; omega
    rw [hlen] at hf ⊢
    generalize spans off n = L at *
    have h1 := hf.keep.get hpl ▸ h
    have hr1 := hf.keep.get hrl ▸ hr
    refine walk none0 ?_
    refine Wq.loop (fun m e H' => ∃ i : Nat, i ≤ cntOf off n ∧ e 0 = .ptr (some (p, 0)) ∧ e 7 = .int .i64 (lackN (fun k => (iget k l).isSome) (off / 64) i) ∧ e 28 = .slice a (cntOf off n) (cntOf off n) ex ∧ e 29 = .int .i64 (cntOf off n) ∧ e 30 = .int .i64 i ∧ m = cntOf off n - i ∧ Keep H1 H') (cntOf off n) ?_ ?_
    · exact ⟨0, by omega, by simp, by simp [lackN], by simp, by simp, by simp, by omega, Upd.rfl⟩
    · rintro m e H' ⟨i, hi, g0, g7, g28, g29, g30, rfl, hk⟩
      by_cases hlt : i < cntOf off n
      · obtain ⟨b, o, c, t, w, mm, rfl, hb1, hb2, hb3, hb4⟩ := hf.own.sl.at (by omega)
        have hx := hget i hlt
        have hg := hk.get hb1 ▸ hb2
        have hs := sub_take hb4 (i := i * 3) (k := 3) (by omega)
        rw [flat_take (s := 3) (fun _ => rfl) hx] at hs
        simp only [encSpan] at hs
        have hn := hf.keep.next
        have hp' := hk.get (show p < H1.next by omega) ▸ h1
        have hr' := hk.get (show r < H1.next by omega) ▸ hr1
        have hk2 := hk.next
        have hfit : o + i * 3 + 3 ≤ c.length := by omega
        refine walk (both g0 (both g7 (both g28 (both g29 (both g30 (both hg (both hs hfit))))))) ?_
        refine (has_some p r size _ l _ (by simp (disch := omega) [hp', ineg]) (by simp (disch := omega) [hr', ineg])).mono fun v H2 hn2 ⟨e2, e3⟩ => ?_
        subst e2; subst e3
        have hbd := lackN_bd (fun k => (iget k l).isSome) (off / 64) i
        have hstep : lackN (fun k => (iget k l).isSome) (off / 64) (i + 1) = lackN (fun k => (iget k l).isSome) (off / 64) i + if (iget (off / 64 + i) l).isSome then 0 else 1 := rfl
        cases hb : (iget (off / 64 + i) l).isSome with
        | true =>
          rw [hb] at hstep
          refine walk (both g0 (both g7 (both g28 (both g29 (both g30 hb))))) ?_
          refine Roundq.normal (cntOf off n - (i + 1)) (by omega) ⟨i + 1, by omega, ?_⟩
          simp [g0, g7, g28, g29, g30, hstep]
          exact (hk.push _).set _ (by simp) (by omega)
        | false =>
          rw [hb] at hstep
          refine walk (both g0 (both g7 (both g28 (both g29 (both g30 hb))))) ?_
          refine Roundq.normal (cntOf off n - (i + 1)) (by omega) ⟨i + 1, by omega, ?_⟩
          simp [g0, g7, g28, g29, g30, hstep]
          exact (hk.push _).set _ (by simp) (by omega)
      · have : i = cntOf off n := by omega
        subst this
        refine walk (both g0 (both g7 (both g28 (both g29 g30)))) ?_
        exact ⟨rfl, hf.keep.then hk⟩
end Go.Abs

/- Chapter 06: a file of the program's, read. -/
namespace Go.Abs
open Go.Proofs
set_option maxRecDepth 100000
set_option linter.unusedVariables false
set_option linter.unusedSimpArgs false

/-- Bytes from a place on. -/
def rdL (f : Int → UInt8) (off : Int) (m : Nat) : List UInt8 := (List.range m).map fun j => f (off + (j : Nat))
theorem rdL_len (f : Int → UInt8) (off : Int) (m : Nat) : (rdL f off m).length = m := by simp [rdL]
theorem rdL_app (f : Int → UInt8) (off : Int) (a b : Nat) : rdL f off (a + b) = rdL f off a ++ rdL f (off + a) b := by
  simp only [rdL, List.range_add, List.map_append, List.map_map]
  congr 1
  apply List.map_congr_left
  intro j _
  simp only [Function.comp]
  congr 1
  omega
theorem rdL_piece {f : Int → UInt8} {bytes : List UInt8} {k : Int} (hl : bytes.length = 64) (hf : ∀ q : Nat, q < 64 → f (64 * k + q) = bytes.getD q 0) {fr cnt : Nat} (h : fr + cnt ≤ 64) : rdL f (64 * k + fr) cnt = (bytes.drop fr).take cnt := by
  apply List.ext_getElem?
  intro i
  by_cases hi : i < cnt
  · simp only [rdL, List.getElem?_map, List.getElem?_range hi, Option.map_some, List.getElem?_take, if_pos hi, List.getElem?_drop]
    have e : 64 * k + (fr : Int) + (i : Int) = 64 * k + ((fr + i : Nat) : Int) := by omega
    rw [e, hf (fr + i) (by omega)]
    rw [List.getD_eq_getElem?_getD, List.getElem?_eq_getElem (by omega : fr + i < bytes.length)]
    rfl
  · rw [List.getElem?_eq_none (by simp [rdL]; omega), List.getElem?_eq_none (by simp; omega)]

def posOf (off m : Int) (i : Nat) : Int := max off (min (off + m) (64 * (off / 64 + i)))

theorem cell_some {l : List (Int × Nat)} {bl : Nat → List UInt8} {k : Int} {b : Nat} (h : iget k l = some b) (q : Nat) (hq : q < 64) : cell l bl (64 * k + q) = (bl b).getD q 0 := by
  unfold cell
  rw [show (64 * k + (q : Int)) / 64 = k from by omega, show ((64 * k + (q : Int)) % 64).toNat = q from by omega, h]
theorem cell_none {l : List (Int × Nat)} {bl : Nat → List UInt8} {k : Int} (h : iget k l = none) (q : Nat) (hq : q < 64) : cell l bl (64 * k + q) = (zeroB 64).getD q 0 := by
  unfold cell
  rw [show (64 * k + (q : Int)) / 64 = k from by omega, h]
  rw [List.getD_eq_getElem?_getD, zeroB, List.getElem?_replicate, if_pos hq]
  rfl

/-- The blocks that bytes lie in, one by one. -/
theorem spans_facts {off m : Int} (ho : 0 ≤ off) (hm : 0 ≤ m) : posOf off m 0 = off ∧ posOf off m (spans off m).length = off + m ∧ (spans off m).length ≤ m + 1 ∧ ((0 < m → (spans off m).length = cntOf off m)) ∧ ∀ i : Nat, i < (spans off m).length →
    (spans off m)[i]? = some (off / 64 + i, posOf off m i - 64 * (off / 64 + i), posOf off m (i + 1) - 64 * (off / 64 + i)) ∧ 64 * (off / 64 + i) ≤ posOf off m i ∧ posOf off m i < posOf off m (i + 1) ∧ posOf off m (i + 1) ≤ 64 * (off / 64 + i) + 64 ∧ off ≤ posOf off m i ∧ posOf off m (i + 1) ≤ off + m := by
  by_cases h : m = 0
  · subst h
    rw [spans_nil (Int.le_refl 0)]
    refine ⟨by unfold posOf; omega, by unfold posOf; simp; omega, by simp, by simp, ?_⟩
    intro i hi
    simp at hi
  · have hl := spans_len ho (by omega : 0 < m)
    rw [hl]
    refine ⟨by unfold posOf; omega, by unfold posOf cntOf; omega, by unfold cntOf; omega, fun _ => rfl, ?_⟩
    intro i hi
    rw [spans_get ho (by omega) hi]
    unfold cntOf at hi
    unfold posOf
    refine ⟨?_, by omega, by omega, by omega, by omega, by omega⟩
    simp only [Option.some.injEq, Prod.mk.injEq]
    refine ⟨trivial, by omega, by omega⟩

theorem read_no (p r : Nat) (size : Int) (l : List (Int × Nat)) (bl : Nat → List UInt8) (off n : Int) (H : Heap) (h : FileR H p r l bl size) (hc : off < 0 ∨ n < 0 ∨ size ≤ off) :
    Cl Try.prog pr06 45 [.ptr (some (p, 0)), .int .i64 off, .int .i64 n] H fun v H' => v = .slice none 0 0 none ∧ H' = H := by
  refine Cl.enter Try.func45 rfl rfl Try.ntmps45 (by simp) ?_
  by_cases c1 : off < 0
  · refine walk none0 ?_
    exact ⟨rfl, rfl⟩
  by_cases c2 : n < 0
  · refine walk none0 ?_
    exact ⟨rfl, rfl⟩
  refine walk none0 ?_
  refine (size_some p r size H h.p0).mono fun v H2 hn2 ⟨e2, e3⟩ => ?_
  subst e2; subst e3
  refine walk none0 ?_
  exact ⟨rfl, rfl⟩

theorem read_yes (p r : Nat) (size : Int) (l : List (Int × Nat)) (bl : Nat → List UInt8) (off n : Int) (H : Heap) (h : FileR H p r l bl size) (ho : 0 ≤ off) (hn : 0 ≤ n) (hs : off < size) (hsz : size ≤ 65536) :
    Cl Try.prog pr06 45 [.ptr (some (p, 0)), .int .i64 off, .int .i64 n] H fun v H' => Fresh H H' 5 1 v (min n (size - off)).toNat (cellsOfBytes (rdL (cell l bl) off (min n (size - off)).toNat)) := by
  refine Cl.wf fun hw => ?_
  have hpl := hw.lt h.p0
  have hrl := hw.lt h.r0
  refine Cl.enter Try.func45 rfl rfl Try.ntmps45 (by simp) ?_
  refine walk none0 ?_
  refine (size_some p r size H h.p0).mono fun v H2 hn2 ⟨e2, e3⟩ => ?_
  subst e2; subst e3
  have hp := h.p0
  refine walk hp ?_
  refine (spans_ok off (min n (size - off)) _ (by omega) (by omega)).mono fun v H1 hn1 hf => ?_
  generalize hm : min n (size - off) = m at *
  have hm0 : 0 ≤ m ∧ off + m ≤ 65536 := by omega
  obtain ⟨hp0, hpC, hC, _, hspan⟩ := spans_facts ho hm0.1
  generalize hL : spans off m = L at *
  generalize hCL : L.length = C at *
  obtain ⟨a, ex, rfl, _⟩ := hf.own.form
  have hn := hf.keep.next
  have h1 := h.upd hw hf.keep fun _ _ => id
  have hp1 := h1.p0
  have hr1 := h1.r0
  refine walk hp ?_
  refine Wq.loop (fun m' e H' => ∃ (i : Nat) (w : AV), i ≤ C ∧ e 0 = .ptr (some (p, 0)) ∧ e 7 = w ∧ e 33 = .slice a C C ex ∧ e 34 = .int .i64 C ∧ e 35 = .int .i64 i ∧ m' = C - i ∧ Fresh H1 H' 5 1 w (posOf off m i - off).toNat (cellsOfBytes (rdL (cell l bl) off (posOf off m i - off).toNat))) C ?_ ?_
  · exact ⟨0, .slice none 0 0 none, by omega, by simp, by simp, by simp, by simp, by simp, by omega, by rw [hp0, Int.sub_self]; exact Fresh.nil Upd.rfl⟩
  · rintro m' e H' ⟨i, w, hi, g0, g7, g33, g34, g35, rfl, hw'⟩
    by_cases hlt : i < C
    · obtain ⟨b, o, c, t, ww, mm, rfl, hb1, hb2, hb3, hb4⟩ := hf.own.sl.at (by omega)
      obtain ⟨hx, q1, q2, q3, q4, q5⟩ := hspan i hlt
      have hk := hw'.keep
      have hg := hk.get hb1 ▸ hb2
      have hs := sub_take hb4 (i := i * 3) (k := 3) (by omega)
      rw [flat_take (s := 3) (fun _ => rfl) hx] at hs
      simp only [encSpan] at hs
      have hp' := hk.get (show p < H1.next by omega) ▸ hp1
      have hr' := hk.get (show r < H1.next by omega) ▸ hr1
      have hk2 := hk.next
      have hfit : o + i * 3 + 3 ≤ c.length := by omega
      refine walk (both g0 (both g7 (both g33 (both g34 (both g35 (both hg (both hs hfit))))))) ?_
      refine Wq.regionD [0, 1, 2, 3, 4, 5, 6, 7] (by kernel_rfl) ?_
      refine walk (both g0 (both g7 (both g33 (both g34 (both g35 (both hp' hr')))))) ?_
      have hfr : ((posOf off m i - 64 * (off / 64 + i)).toNat : Int) = posOf off m i - 64 * (off / 64 + i) := by omega
      generalize hfrN : (posOf off m i - 64 * (off / 64 + i)).toNat = fr at *
      have hcn : ((posOf off m (i + 1) - posOf off m i).toNat : Int) = posOf off m (i + 1) - posOf off m i := by omega
      generalize hcnN : (posOf off m (i + 1) - posOf off m i).toNat = cn at *
      have hcn2 : (posOf off m (i + 1) - 64 * (off / 64 + i) - (posOf off m i - 64 * (off / 64 + i))).toNat = cn := by omega
      cases hb' : iget (off / 64 + i) l with
      | none =>
        refine walk (both g0 (both g7 (both g33 (both g34 (both g35 (both hp' (both hr' (both hb' (both hfrN hcn2))))))))) ?_
        refine Oq.append (own := (hw'.then (((Upd.rfl.push _).set _ (by simp) (by omega)).push _)).own) (m := cn) (by simp (disch := omega) [g0, g7, g33, g34, g35, hp', hr', hb', -getElem?_pos, wrapI64, tdivN, tmodN, ipos, ineg, dpos, dneg, slc_l, slc_h, slc_lh, slc_hm, slc_lhm, slc_0, slcR_some, slcR_none, cutS_ok, cutA_ok, byteAt_ok]; first | done | (repeat' (first | rfl | apply And.intro))) ⟨_, rfl, by simp; first | done | (repeat' (first | rfl | apply And.intro))⟩ rfl (by kernel_rfl) (by kernel_rfl) (src_at (c := cellsOfBytes (zeroB 64)) (by simp (disch := omega) [ineg]; first | done | (repeat' (first | rfl | apply And.intro))) (by simp [(zeroB_len 64)]; omega)) (by simp [(zeroB_len 64)]; omega) (by rw [Nat.mul_one, cellsOfBytes_drop, cellsOfBytes_take]; exact cellsOfBytes_one _) (by omega) (by omega) fun w1 H3 o1 b1 s1 => ?_
        refine walk (both g0 (both g7 (both g33 (both g34 (both g35 (both hp' (both hr' hb'))))))) ?_
        have hf2 := (hw'.then (((Upd.rfl.push _).set _ (by simp) (by omega)).push _)).app o1 b1 s1
        have hcell : ∀ q : Nat, q < 64 → cell l bl (64 * (off / 64 + i) + q) = (zeroB 64).getD q 0 := (cell_none hb')
        have hpc := rdL_piece (f := cell l bl) (k := off / 64 + i) (fr := fr) (cnt := cn) (zeroB_len 64) hcell (by omega)
        rw [show (64 * (off / 64 + i) + (fr : Int)) = off + ((posOf off m i - off).toNat : Int) from by omega] at hpc
        rw [Nat.mul_one, cellsOfBytes_drop, cellsOfBytes_take, ← cellsOfBytes_app, ← hpc, ← rdL_app, show (posOf off m i - off).toNat + cn = (posOf off m (i + 1) - off).toNat from by omega] at hf2
        refine Roundq.normal (C - (i + 1)) (by omega) ⟨i + 1, w1, by omega, ?_⟩
        simp [g0, g7, g33, g34, g35]
        exact hf2
      | some b' =>
        have hbk := h1.blk _ _ (iget_mem hb')
        have hbl : b' < H1.next := by have := h.lt hw b' (.inr (.inr ⟨_, iget_mem hb'⟩)); omega
        have hbk' := hk.get hbl ▸ hbk.1
        have ht64 : (cellsOfBytes (bl b')).take 64 = cellsOfBytes (bl b') := List.take_of_length_le (by rw [cellsOfBytes_len]; omega)
        refine walk (both g0 (both g7 (both g33 (both g34 (both g35 (both hp' (both hr' (both hb' (both hbk' (both hbk.2 ht64)))))))))) ?_
        refine Oq.storeFull (b := H'.next + 1) (vs := cellsOfBytes (bl b')) (by simp) (by simp) (by simp; exact ⟨rfl, rfl, rfl⟩) (by simp [hbk.2]) (by simp [hbk.2]) (cellsOfBytes_one _) (by simp [hbk.2]) ?_
        refine walk (both g0 (both g7 (both g33 (both g34 (both g35 (both hp' (both hr' (both hb' (both hfrN hcn2))))))))) ?_
        refine Oq.append (own := (hw'.then ((((Upd.rfl.push _).set _ (by simp) (by omega)).push _).set _ (by simp) (by omega))).own) (m := cn) (by simp (disch := omega) [g0, g7, g33, g34, g35, hp', hr', hb', -getElem?_pos, wrapI64, tdivN, tmodN, ipos, ineg, dpos, dneg, slc_l, slc_h, slc_lh, slc_hm, slc_lhm, slc_0, slcR_some, slcR_none, cutS_ok, cutA_ok, byteAt_ok]; first | done | (repeat' (first | rfl | apply And.intro))) ⟨_, rfl, by simp; first | done | (repeat' (first | rfl | apply And.intro))⟩ rfl (by kernel_rfl) (by kernel_rfl) (src_at (c := cellsOfBytes (bl b')) (by simp (disch := omega) [ineg]; first | done | (repeat' (first | rfl | apply And.intro))) (by simp [hbk.2]; omega)) (by simp [hbk.2]; omega) (by rw [Nat.mul_one, cellsOfBytes_drop, cellsOfBytes_take]; exact cellsOfBytes_one _) (by omega) (by omega) fun w1 H3 o1 b1 s1 => ?_
        refine walk (both g0 (both g7 (both g33 (both g34 (both g35 (both hp' (both hr' hb'))))))) ?_
        have hf2 := (hw'.then ((((Upd.rfl.push _).set _ (by simp) (by omega)).push _).set _ (by simp) (by omega))).app o1 b1 s1
        have hcell : ∀ q : Nat, q < 64 → cell l bl (64 * (off / 64 + i) + q) = (bl b').getD q 0 := (cell_some hb')
        have hpc := rdL_piece (f := cell l bl) (k := off / 64 + i) (fr := fr) (cnt := cn) hbk.2 hcell (by omega)
        rw [show (64 * (off / 64 + i) + (fr : Int)) = off + ((posOf off m i - off).toNat : Int) from by omega] at hpc
        rw [Nat.mul_one, cellsOfBytes_drop, cellsOfBytes_take, ← cellsOfBytes_app, ← hpc, ← rdL_app, show (posOf off m i - off).toNat + cn = (posOf off m (i + 1) - off).toNat from by omega] at hf2
        refine Roundq.normal (C - (i + 1)) (by omega) ⟨i + 1, w1, by omega, ?_⟩
        simp [g0, g7, g33, g34, g35]
        exact hf2
    · have : i = C := by omega
      subst this
      rw [hpC, show (off + m - off).toNat = m.toNat from by omega] at hw'
      refine walk (both g0 (both g7 (both g33 (both g34 g35)))) ?_
      exact Fresh.after hf.keep hw'
end Go.Abs

/- Chapter 06: a file of the program's, written. -/
namespace Go.Abs
open Go.Proofs
set_option maxRecDepth 100000
set_option linter.unusedVariables false
set_option linter.unusedSimpArgs false

section
variable {H : Heap} {p r : Nat} {l : List (Int × Nat)} {bl : Nat → List UInt8} {size : Int}
theorem FileR.ne_r (h : FileR H p r l bl size) : p ≠ r := by
  intro e; subst e
  have := h.p0.symm.trans h.r0
  simp at this
theorem FileR.ne_p {k : Int} {b : Nat} (h : FileR H p r l bl size) (hb : (k, b) ∈ l) : b ≠ p := by
  intro e; subst e
  have := h.p0.symm.trans (h.blk k b hb).1
  simp at this
theorem FileR.ne_rb {k : Int} {b : Nat} (h : FileR H p r l bl size) (hb : (k, b) ∈ l) : b ≠ r := by
  intro e; subst e
  have := h.r0.symm.trans (h.blk k b hb).1
  simp at this
def updB (bl : Nat → List UInt8) (b : Nat) (bytes : List UInt8) : Nat → List UInt8 := fun x => if x = b then bytes else bl x
theorem cell_upd_ne {b : Nat} {x : List UInt8} {j : Int} (h : ∀ b', iget (j / 64) l = some b' → b' ≠ b) : cell l (updB bl b x) j = cell l bl j := by
  unfold cell
  cases hg : iget (j / 64) l with
  | none => rfl
  | some b' => simp only [updB]; rw [if_neg (h b' hg)]
theorem FileR.setBlk {k : Int} {b : Nat} {bytes : List UInt8} (h : FileR H p r l bl size) (hb : (k, b) ∈ l) (hl : bytes.length = 64) : FileR (H.set b (.cells (cellsOfBytes bytes) 117 true false)) p r l (updB bl b bytes) size := by
  refine ⟨?_, ?_, h.once, ?_, h.inj⟩
  · rw [Heap.get_set, if_neg (fun e => h.ne_p hb e.symm)]; exact h.p0
  · rw [Heap.get_set, if_neg (fun e => h.ne_rb hb e.symm)]; exact h.r0
  · intro k' b' hb'
    rw [Heap.get_set]
    unfold updB
    by_cases e : b' = b
    · rw [if_pos e, if_pos e]; exact ⟨rfl, hl⟩
    · rw [if_neg e, if_neg e]; exact h.blk k' b' hb'
theorem FileR.addBlk {k : Int} {nb : Nat} {bytes : List UInt8} (h : FileR H p r l bl size) (hk : iget k l = none) (hb : H.get nb = some (.cells (cellsOfBytes bytes) 117 true false)) (hl : bytes.length = 64) (hn : ∀ k', (k', nb) ∉ l) :
    FileR (H.set r (.map (imap .i64 (pm ptrTo (iset k nb l))))) p r (iset k nb l) (updB bl nb bytes) size := by
  have hnr : nb ≠ r := by
    intro e; subst e
    have := h.r0.symm.trans hb
    simp at this
  refine ⟨?_, ?_, ionce_iset h.once, ?_, ?_⟩
  · rw [Heap.get_set, if_neg h.ne_r]; exact h.p0
  · rw [Heap.get_set, if_pos rfl]
  · intro k' b' hb'
    unfold updB
    rcases mem_iset hb' with ⟨rfl, rfl⟩ | hb'
    · rw [if_pos rfl, Heap.get_set, if_neg hnr]; exact ⟨hb, hl⟩
    · rw [if_neg (fun e => hn k' (by rw [← e]; exact hb')), Heap.get_set, if_neg (h.ne_rb hb')]; exact h.blk k' b' hb'
  · intro k1 k2 b' h1 h2
    rcases mem_iset h1 with ⟨rfl, rfl⟩ | h1
    · rcases mem_iset h2 with ⟨rfl, _⟩ | h2
      · rfl
      · exact absurd h2 (hn _)
    · rcases mem_iset h2 with ⟨e1, e2⟩ | h2
      · rw [e2] at h1; exact absurd h1 (hn _)
      · exact h.inj _ _ _ h1 h2
theorem FileR.setSize {s' : Int} (h : FileR H p r l bl size) : FileR (H.set p (.cells [.map (some r), .int .i64 s'] 107 true false)) p r l bl s' := by
  refine ⟨?_, ?_, h.once, ?_, h.inj⟩
  · rw [Heap.get_set, if_pos rfl]
  · rw [Heap.get_set, if_neg (fun e => h.ne_r e.symm)]; exact h.r0
  · intro k' b' hb'
    rw [Heap.get_set, if_neg (h.ne_p hb')]; exact h.blk k' b' hb'
theorem FileR.delBlk {k : Int} (h : FileR H p r l bl size) : FileR (H.set r (.map (imap .i64 (pm ptrTo (idel k l))))) p r (idel k l) bl size := by
  refine ⟨?_, ?_, ionce_idel h.once, ?_, fun _ _ _ a b => h.inj _ _ _ (mem_idel a) (mem_idel b)⟩
  · rw [Heap.get_set, if_neg h.ne_r]; exact h.p0
  · rw [Heap.get_set, if_pos rfl]
  · intro k' b' hb'
    have hb' := mem_idel hb'
    rw [Heap.get_set, if_neg (h.ne_rb hb')]; exact h.blk k' b' hb'
end

theorem write_no {p r : Nat} {size : Int} {l : List (Int × Nat)} {bl : Nat → List UInt8} (off room : Int) {n : Nat} {bv : AV} {cs : List AV} (H : Heap) (h : FileR H p r l bl size) (hb : Sl H 1 bv n cs) (hn : n ≤ 300) (hof : -9223372036854775808 ≤ off ∧ off ≤ 9223372036854775807) (hc : off < 0 ∨ off > 65536 ∨ n > 65536 - off) :
    Cl Try.prog pr06 55 [.ptr (some (p, 0)), .int .i64 off, bv, .int .i64 room] H fun v H' => v = .tuple [.int .i64 0, .int .i64 (if off < 0 then 22 else 27)] ∧ H' = H := by
  obtain ⟨a, cap, ex, rfl, hcap, hex⟩ := hb.form
  refine Cl.enter Try.func55 rfl rfl Try.ntmps55 (by simp) ?_
  by_cases c1 : off < 0
  · refine walk none0 ?_
    exact ⟨by rw [if_pos c1], rfl⟩
  by_cases c2 : off > 65536
  · refine walk none0 ?_
    exact ⟨by rw [if_neg c1], rfl⟩
  refine walk none0 ?_
  exact ⟨by rw [if_neg c1], rfl⟩

theorem write_full {p r : Nat} {size : Int} {l : List (Int × Nat)} {bl : Nat → List UInt8} (off room : Int) {n : Nat} {bv : AV} {cs : List AV} (H : Heap) (h : FileR H p r l bl size) (hb : Sl H 1 bv n cs) (hn : n ≤ 300) (hc : 0 ≤ off ∧ off ≤ 65536 ∧ n ≤ 65536 - off) (hr : needN (fun k => (iget k l).isSome) off n > room) :
    Cl Try.prog pr06 55 [.ptr (some (p, 0)), .int .i64 off, bv, .int .i64 room] H fun v H' => v = .tuple [.int .i64 0, .int .i64 28] ∧ Keep H H' := by
  obtain ⟨a, cap, ex, rfl, hcap, hex⟩ := hb.form
  refine Cl.enter Try.func55 rfl rfl Try.ntmps55 (by simp) ?_
  refine walk none0 ?_
  refine (need_ok p r size l off n (by omega) (by omega) H h.p0 h.r0).mono fun v H1 hn1 ⟨e1, hk⟩ => ?_
  subst e1
  refine walk none0 ?_
  exact ⟨rfl, hk⟩

/-- What a write leaves. -/
structure Wrote (H H' : Heap) (p r : Nat) (l l' : List (Int × Nat)) (bl bl' : Nat → List UInt8) (size' : Int) (off : Int) (B : List UInt8) (upto : Int) (i : Nat) : Prop where
  rep : FileR H' p r l' bl' size'
  cel : ∀ j, cell l' bl' j = if off ≤ j ∧ j < upto then B.getD (j - off).toNat 0 else cell l bl j
  som : ∀ k, (iget k l').isSome = ((iget k l).isSome || (decide (off / 64 ≤ k) && decide (k < off / 64 + i)))
  ln : (l'.length : Int) = l.length + lackN (fun k => (iget k l).isSome) (off / 64) i
  upd : Upd (fpF p r l) H H'
  fp : ∀ b, fpF p r l' b → fpF p r l b ∨ H.next ≤ b

section
variable {H H' Ha : Heap} {p r : Nat} {l l' : List (Int × Nat)} {bl bl' : Nat → List UInt8} {s off upto : Int} {B : List UInt8} {i : Nat}
theorem Wrote.then (w : Wrote H H' p r l l' bl bl' s off B upto i) (hw : Wf H') (u : Keep H' Ha) : Wrote H Ha p r l l' bl bl' s off B upto i :=
  ⟨w.rep.upd hw u fun _ _ => id, w.cel, w.som, w.ln, w.upd.then u, w.fp⟩
theorem Wrote.have (w : Wrote H H' p r l l' bl bl' s off B upto i) (h : (iget (off / 64 + i) l').isSome = true) : Wrote H H' p r l l' bl bl' s off B upto (i + 1) := by
  have h1 := w.som (off / 64 + i)
  have e : (decide (off / 64 ≤ off / 64 + (i : Int)) && decide (off / 64 + (i : Int) < off / 64 + i)) = false := by simp
  rw [h, e, Bool.or_false] at h1
  refine ⟨w.rep, w.cel, ?_, ?_, w.upd, w.fp⟩
  · intro k
    rw [w.som k]
    by_cases hk : k = off / 64 + i
    · subst hk; rw [← h1]; simp
    · congr 1
      rw [Bool.eq_iff_iff]
      simp
      omega
  · rw [w.ln]
    simp only [lackN, ← h1, if_true]
    omega
theorem Wrote.add {nb : Nat} (w : Wrote H H' p r l l' bl bl' s off B upto i) (h : iget (off / 64 + i) l' = none) (hb : H'.get nb = some (.cells (cellsOfBytes (zeroB 64)) 117 true false)) (hn : H.next ≤ nb) (hf : ∀ b, fpF p r l' b → b ≠ nb) (hr : r < H'.next) :
    Wrote H (H'.set r (.map (imap .i64 (pm ptrTo (iset (off / 64 + i) nb l'))))) p r l (iset (off / 64 + i) nb l') bl (updB bl' nb (zeroB 64)) s off B upto (i + 1) := by
  have h1 := w.som (off / 64 + i)
  have e : (decide (off / 64 ≤ off / 64 + (i : Int)) && decide (off / 64 + (i : Int) < off / 64 + i)) = false := by simp
  rw [h, e, Bool.or_false, Option.isSome_none] at h1
  have hnb : ∀ k', (k', nb) ∉ l' := fun k' hk => hf nb (.inr (.inr ⟨k', hk⟩)) rfl
  refine ⟨w.rep.addBlk h hb (zeroB_len 64) hnb, ?_, ?_, ?_, w.upd.set _ hr (fun _ => .inr (.inl rfl)), ?_⟩
  · intro j
    rw [← w.cel j]
    unfold cell
    rw [iget_iset]
    by_cases hk : off / 64 + i = j / 64
    · rw [if_pos hk, ← hk, h]
      simp only [updB, if_true]
      unfold zeroB
      rw [List.getD_eq_getElem?_getD, List.getElem?_replicate, if_pos (by omega)]
      rfl
    · rw [if_neg hk]
      cases hg : iget (j / 64) l' with
      | none => rfl
      | some b =>
        simp only [updB]
        rw [if_neg (fun e => hnb _ (by rw [← e]; exact iget_mem hg))]
  · intro k
    rw [iget_iset]
    by_cases hk : off / 64 + i = k
    · rw [if_pos hk, ← hk]; simp; right; omega
    · rw [if_neg hk, w.som k]
      congr 1
      rw [Bool.eq_iff_iff]
      simp
      omega
  · rw [iset_len, h]
    simp only [Option.isSome_none, Bool.false_eq_true, if_false, lackN, ← h1]
    have := w.ln
    omega
  · rintro b (rfl | rfl | ⟨k, hk⟩)
    · exact .inl (.inl rfl)
    · exact .inl (.inr (.inl rfl))
    · rcases mem_iset hk with ⟨_, rfl⟩ | hk
      · exact .inr hn
      · exact w.fp b (.inr (.inr ⟨k, hk⟩))
theorem Wrote.set {k : Int} {b fr cn d : Nat} (w : Wrote H H' p r l l' bl bl' s off B upto i) (hb : iget k l' = some b) (hu : upto = 64 * k + fr) (hc : fr + cn ≤ 64) (hd : (d : Int) = upto - off) (hB : d + cn ≤ B.length) (hlt : b < H'.next) (hfp : b < H.next → fpF p r l b) :
    Wrote H (H'.set b (.cells (cellsOfBytes ((bl' b).take fr ++ ((B.drop d).take cn ++ (bl' b).drop (fr + cn)))) 117 true false)) p r l l' bl (updB bl' b ((bl' b).take fr ++ ((B.drop d).take cn ++ (bl' b).drop (fr + cn)))) s off B (upto + cn) i := by
  have hbl := (w.rep.blk _ _ (iget_mem hb)).2
  refine ⟨w.rep.setBlk (iget_mem hb) (by simp [hbl]; omega), ?_, w.som, w.ln, w.upd.set _ hlt hfp, w.fp⟩
  intro j
  have hold := w.cel j
  by_cases hk : j / 64 = k
  · unfold cell at hold ⊢
    rw [hk, hb] at hold
    rw [hk, hb]
    simp only [updB, if_true] at hold ⊢
    have hj : j = 64 * k + (j % 64) := by omega
    have hq : 0 ≤ j % 64 ∧ j % 64 < 64 := ⟨by omega, by omega⟩
    obtain ⟨q, hq'⟩ := Int.eq_ofNat_of_zero_le hq.1
    rw [hq'] at hold hq hj ⊢
    simp only [Int.toNat_natCast] at hold ⊢
    by_cases c1 : q < fr
    · rw [getD_appL (by simp [hbl]; omega)]
      have e1 : ((bl' b).take fr).getD q 0 = (bl' b).getD q 0 := by simp [List.getD, List.getElem?_take, c1]
      rw [e1, hold]
      by_cases c2 : off ≤ j
      · rw [if_pos ⟨c2, by omega⟩, if_pos ⟨c2, by omega⟩]
      · rw [if_neg (by omega), if_neg (by omega)]
    · rw [getD_appR (by simp [hbl]; omega)]
      have e0 : ((bl' b).take fr).length = fr := by simp [hbl]; omega
      rw [e0]
      by_cases c2 : q < fr + cn
      · rw [getD_appL (by simp; omega), if_pos ⟨by omega, by omega⟩]
        have e1 : ((B.drop d).take cn).getD (q - fr) 0 = B.getD (d + (q - fr)) 0 := by simp [List.getD, List.getElem?_take, show q - fr < cn from by omega]
        rw [e1]
        congr 1
        omega
      · rw [getD_appR (by simp; omega), if_neg (by omega)]
        rw [if_neg (by omega)] at hold
        rw [← hold]
        have e1 : ((B.drop d).take cn).length = cn := by simp; omega
        rw [e1]
        simp only [List.getD, List.getElem?_drop]
        congr 2
        omega
  · have hne : ∀ b', iget (j / 64) l' = some b' → b' ≠ b := by
      intro b' h1 h2
      subst h2
      exact hk (w.rep.inj _ _ _ (iget_mem h1) (iget_mem hb))
    rw [cell_upd_ne hne, hold]
    by_cases c : off ≤ j ∧ j < upto
    · rw [if_pos c, if_pos ⟨c.1, by omega⟩]
    · rw [if_neg c, if_neg (by omega)]
end

set_option maxHeartbeats 1000000 in
theorem write_yes {p r : Nat} {size : Int} {l : List (Int × Nat)} {bl : Nat → List UInt8} (off room : Int) {n : Nat} {bv : AV} {B : List UInt8} (H : Heap) (h : FileR H p r l bl size) (hb : Sl H 1 bv n (cellsOfBytes B)) (hn : n ≤ 300) (hd : ∀ b, slBlock bv = some b → ¬ fpF p r l b) (hc : 0 ≤ off ∧ off ≤ 65536 ∧ n ≤ 65536 - off) (hr : needN (fun k => (iget k l).isSome) off n ≤ room) (hsz : 0 ≤ size ∧ size ≤ 65536) :
    Cl Try.prog pr06 55 [.ptr (some (p, 0)), .int .i64 off, bv, .int .i64 room] H fun v H' => v = .tuple [.int .i64 (needN (fun k => (iget k l).isSome) off n), .int .i64 0] ∧
      ∃ l' bl', Wrote H H' p r l l' bl bl' (if 0 < n then max size (off + n) else size) off B (off + n) (spans off n).length := by
  refine Cl.wf fun hw => ?_
  obtain ⟨a, cap, ex, rfl, hcap, hex⟩ := hb.form
  have hpl := hw.lt h.p0
  have hrl := hw.lt h.r0
  refine Cl.enter Try.func55 rfl rfl Try.ntmps55 (by simp) ?_
  refine walk none0 ?_
  refine (need_ok p r size l off n (by omega) (by omega) H h.p0 h.r0).mono fun v H1 hn1 ⟨e1, hk⟩ => ?_
  subst e1
  generalize hneed : needN (fun k => (iget k l).isSome) off n = need at *
  have h1 := h.upd hw hk fun _ _ => id
  have hp1 := h1.p0
  by_cases h0 : 0 < n
  · rw [if_pos h0]
    refine walk hp1 ?_
    have h2 := h1.setSize (s' := max size (off + n))
    generalize hH2 : H1.set p (AObj.cells [AV.map (some r), AV.int IntKind.i64 (max size (off + n))] 107 true false) = H2 at *
    have u2 : Upd (fpF p r l) H H2 := by subst hH2; exact (Upd.of hk).set _ (by omega) (fun _ => .inl rfl)
    refine Cl.wfK ((spans_ok off n H2 (by omega) (by omega)).mono fun v H3 hn3 hf hw3 => ?_)
    have hw2 : Wf H2 := by subst hH2; exact set_wf (by omega) _ (hk.wf hw)
    have h3 := h2.upd hw2 hf.keep fun _ _ => id
    obtain ⟨hp0, hpC, hC, hCl, hspan⟩ := spans_facts (off := off) (m := n) (by omega) (by omega)
    have hCl := hCl (by omega)
    obtain ⟨a3, ex3, rfl, _⟩ := hf.own.form
    obtain ⟨b3, o3, c3, t3, w3, m3, rfl, hb31, hb32, hb33, hb34⟩ := hf.own.sl.at (by rw [hCl]; unfold cntOf; omega)
    have hb3n : ¬ fpF p r l b3 := fun hh => by have := h.lt hw _ hh; have := hf.new b3 rfl; have := u2.next; omega
    obtain ⟨bb, ob, cB, tB, wB, mB, rfl, hbb1, hbb2, hbb3, hbb4⟩ := hb.at h0
    have hbbn := hd bb rfl
    have hbb2 : H3.get bb = some (.cells cB tB wB mB) := ((u2.then hf.keep).keep bb hbb1 hbbn).trans hbb2
    have hbb1 : bb < H3.next := by have := u2.next; omega
    have hBl : B.length = n := by have := hb.len; rw [cellsOfBytes_len] at this; omega
    generalize hLn : (spans off (n : Int)).length = C at *
    have hneedE : need = need := rfl
    have hW0 : Wrote H3 H3 p r l l bl bl (max size (off + n)) off B (posOf off n 0) 0 :=
      ⟨h3, fun j => by rw [hp0, if_neg (by omega)], fun k => by
        have : (decide (off / 64 ≤ k) && decide (k < off / 64 + ((0 : Nat) : Int))) = false := by simp
        rw [this, Bool.or_false], by simp [lackN], Upd.rfl, fun b hb => .inl hb⟩
    refine walk none0 ?_
    refine Wq.loop (fun m e H' => ∃ (i : Nat) (l' : List (Int × Nat)) (bl' : Nat → List UInt8) (d cap' : Nat), i ≤ C ∧ (d : Int) = posOf off n i - off ∧ n - d ≤ cap' ∧ e 0 = .ptr (some (p, 0)) ∧ e 2 = .slice (some (bb, ob + d)) (n - d) cap' ex ∧ e 10 = .int .i64 need ∧ e 53 = .slice (some (b3, o3)) C C ex3 ∧ e 54 = .int .i64 C ∧ e 55 = .int .i64 i ∧ m = C - i ∧ Wf H' ∧
      Wrote H3 H' p r l l' bl bl' (max size (off + n)) off B (posOf off n i) i) C ?_ ?_
    · exact ⟨0, l, bl, 0, cap, by omega, by omega, by omega, by simp, by simp, by simp, by simp, by simp, by simp, by omega, hw3, hW0⟩
    · rintro m e H' ⟨i, l', bl', d, cap', hi, hd', hcap', g0, g2, g10, g53, g54, g55, rfl, hw', hW⟩
      by_cases hlt : i < C
      · obtain ⟨hx, q1, q2, q3, q4, q5⟩ := hspan i hlt
        have hk2 := hW.upd.next
        have hg := (hW.upd.keep b3 hb31 hb3n).trans hb32
        have hgB := (hW.upd.keep bb hbb1 hbbn).trans hbb2
        have hs := sub_take hb34 (i := i * 3) (k := 3) (by omega)
        rw [flat_take (s := 3) (fun _ => rfl) hx] at hs
        simp only [encSpan] at hs
        have hp' := hW.rep.p0
        have hr' := hW.rep.r0
        have hpn := hw'.lt hp'
        have hrn := hw'.lt hr'
        have hfit : o3 + i * 3 + 3 ≤ c3.length := by omega
        have hfr : ((posOf off n i - 64 * (off / 64 + i)).toNat : Int) = posOf off n i - 64 * (off / 64 + i) := by omega
        generalize hfrN : (posOf off n i - 64 * (off / 64 + i)).toNat = fr at *
        have hcn2 : (posOf off n (i + 1) - 64 * (off / 64 + i) - (posOf off n i - 64 * (off / 64 + i))).toNat = (posOf off n (i + 1) - posOf off n i).toNat := by omega
        have hcn : ((posOf off n (i + 1) - posOf off n i).toNat : Int) = posOf off n (i + 1) - posOf off n i := by omega
        generalize hcnN : (posOf off n (i + 1) - posOf off n i).toNat = cn at *
        have hs1 := sub_take hbb4 (i := d) (k := cn) (by omega)
        rw [cellsOfBytes_drop, cellsOfBytes_take] at hs1
        refine walk (both g0 (both g2 (both g53 (both g54 (both g55 (both hg (both hs hfit))))))) ?_
        refine Wq.gen (fun Hs => Keep H' Hs ∧ Hs.get H'.next = some (.cells (encSpan (off / 64 + i, posOf off n i - 64 * (off / 64 + i), posOf off n (i + 1) - 64 * (off / 64 + i))) 115 true false) ∧ Hs.next = H'.next + 1) ⟨(Upd.rfl.push _).set _ (by simp) (by omega), by simp [encSpan], by simp⟩ fun Hs ⟨hks, hgs, hns⟩ => ?_
        simp only [encSpan] at hgs
        have hWs := hW.then hw' hks
        have hws := hks.wf hw'
        have hps := hWs.rep.p0
        have hrs := hWs.rep.r0
        refine Wq.regionD [0, 1, 2, 3, 4, 5, 6, 7] (by kernel_rfl) ?_
        refine walkr (both g0 (both g2 (both g53 (both g54 (both g55 (both hps (both hrs hgs))))))) ?_
        refine Wq.seq (Wq.mono (Q := fun x e2 Hx => x = .normal ∧ ∃ l2 bl2 blk, Wrote H3 Hx p r l l2 bl bl2 (max size (off + n)) off B (posOf off n i) (i + 1) ∧ iget (off / 64 + i) l2 = some blk ∧ Wf Hx ∧ Hx.get H'.next = Hs.get H'.next ∧ blk ≠ H'.next ∧ e2 0 = e 0 ∧ e2 2 = e 2 ∧ e2 10 = e 10 ∧ e2 12 = .ptr (some (H'.next, 0)) ∧ e2 13 = .ptr (some (blk, 0)) ∧ e2 53 = e 53 ∧ e2 54 = e 54 ∧ e2 55 = e 55) ?_ ?_)
        · have hnp : p ≠ H'.next := by omega
          have hnr : r ≠ H'.next := by omega
          cases hb' : iget (off / 64 + i) l' with
          | none =>
            refine walk (both g0 (both g2 (both g53 (both g54 (both g55 (both hps (both hrs (both hb' hgs)))))))) ?_
            refine Wq.regionD [0, 1, 2, 3, 4, 5, 6, 7] (by kernel_rfl) ?_
            refine walk (both g0 (both g2 (both g53 (both g54 (both g55 (both hps (both hrs (both hb' hgs)))))))) ?_
            have hW1 := hWs.then (Ha := Hs.push (AObj.cells (cellsOfBytes (zeroB 64)) 117 true false)) hws (Upd.rfl.push _)
            have hW2 := hW1.add (nb := Hs.next) hb' (by simp) (by omega) (fun b hb => by have := hWs.rep.lt hws b hb; omega) (by simp; omega)
            refine ⟨rfl, _, _, Hs.next, hW2, by rw [iget_iset, if_pos rfl], set_wf (by simp; omega) _ (push_wf _ hws), ?_, by omega, ?_⟩
            · rw [Heap.get_set, if_neg (fun e => hnr e.symm), Heap.get_push, if_neg (by omega)]
            · simp
          | some b' =>
            refine walk (both g0 (both g2 (both g53 (both g54 (both g55 (both hps (both hrs (both hb' hgs)))))))) ?_
            refine ⟨rfl, l', bl', b', hWs.have (by rw [hb']; rfl), hb', hws, rfl, ?_, ?_⟩
            · have := hW.rep.lt hw' b' (.inr (.inr ⟨_, iget_mem hb'⟩)); omega
            · simp
        · rintro x e2 Hx hnx ⟨rfl, l2, bl2, blk, hW2, hgk, hwx, hgx, hbne, k0, k2, k10, k12, k13, k53, k54, k55⟩
          rw [g0] at k0; rw [g2] at k2; rw [g10] at k10; rw [g53] at k53; rw [g54] at k54; rw [g55] at k55
          rw [hgs] at hgx
          have hblk := hW2.rep.blk _ _ (iget_mem hgk)
          have hblt := hwx.lt hblk.1
          have hBB := (hW2.upd.keep bb hbb1 hbbn).trans hbb2
          have hBl2 : (bl2 blk).length = 64 := hblk.2
          have hblk1 := hblk.1
          refine Thenq.normal ?_
          refine Wq.regionD [1, 2, 3, 4, 5, 6, 7, 8, 9, 0, 10, 11] (by kernel_rfl) ?_
          refine walk (both k0 (both k2 (both k12 (both k13 (both k53 (both k54 (both k55 (both hgx (both hfrN hcn2))))))))) ?_
          refine Oq.copy cn (cd := cellsOfBytes (bl2 blk)) (cs := cB) (by simp (disch := omega) [k0, k2, k12, k13, k53, k54, k55, hgx, hfrN, hcn2]; first | done | (repeat' (first | rfl | apply And.intro))) rfl (by simp) (by omega) (by omega) (by rw [hblk1]) (by rw [hBB]) (by rw [cellsOfBytes_len]; omega) (by omega) (by rw [hs1]; exact cellsOfBytes_one _) ?_
          rw [hs1, cellsOfBytes_take (bl2 blk), cellsOfBytes_drop (bl2 blk), ← cellsOfBytes_app, ← cellsOfBytes_app]
          have hexs : (if ex = none ∨ ex = some 1 then ex else ex) = ex := by split <;> rfl
          refine walk (both k0 (both k2 (both k12 (both k13 (both k53 (both k54 (both k55 hex))))))) ?_
          have hW3 := hW2.set (fr := fr) (cn := cn) (d := d) hgk (by omega) (by omega) (by omega) (by omega) hblt (fun h => by rcases hW2.fp blk (.inr (.inr ⟨_, iget_mem hgk⟩)) with h' | h'; (· exact h'); (· omega))
          rw [show posOf off n i + cn = posOf off n (i + 1) from by omega] at hW3
          refine Roundq.normal (C - (i + 1)) (by omega) ⟨i + 1, l2, _, d + cn, cap' - cn, by omega, by omega, by omega, by simp [k0], ?_, by simp [k10], by simp [k53], by simp [k54], by simp [k55], rfl, set_wf hblt _ hwx, hW3⟩
          simp
          omega
      · have : i = C := by omega
        subst this
        refine walk (both g0 (both g10 (both g54 g55))) ?_
        rw [hpC] at hW
        refine ⟨rfl, l', bl', hW.rep, hW.cel, hW.som, hW.ln, (u2.then hf.keep).trans hW.upd fun _ _ => id, fun b hb => ?_⟩
        rcases hW.fp b hb with h | h
        · exact .inl h
        · exact .inr (by have := u2.next; have := hf.keep.next; omega)
  · rw [if_neg h0]
    have : n = 0 := by omega
    subst this
    refine walk hp1 ?_
    refine (spans_ok off (0 : Nat) H1 (by omega) (by omega)).mono fun v H3 hn3 hf => ?_
    have e0 : spans off ((0 : Nat) : Int) = [] := spans_nil (by omega)
    rw [e0] at hf ⊢
    obtain ⟨a3, ex3, rfl, _⟩ := hf.own.form
    refine walk hp1 ?_
    refine Wq.loop (fun m e H' => e 10 = .int .i64 need ∧ e 54 = .int .i64 0 ∧ e 55 = .int .i64 0 ∧ H' = H3) 0 (by simp) ?_
    rintro m e H' ⟨g10, g54, g55, rfl⟩
    refine walk (both g10 (both g54 g55)) ?_
    refine ⟨rfl, l, bl, h1.upd (hk.wf hw) hf.keep fun _ _ => id, ?_, ?_, by simp [lackN], Upd.of (hk.then hf.keep), fun b hb => .inl hb⟩
    · intro j
      rw [if_neg (by omega)]
    · intro k
      have : (decide (off / 64 ≤ k) && decide (k < off / 64 + (([] : List (Int × Int × Int)).length : Int))) = false := by simp
      rw [this, Bool.or_false]
end Go.Abs

/- Chapter 06: a file of the program's, cut. -/
namespace Go.Abs
open Go.Proofs
set_option maxRecDepth 100000
set_option linter.unusedVariables false
set_option linter.unusedSimpArgs false

theorem trunc_no {p r : Nat} {size : Int} {l : List (Int × Nat)} {bl : Nat → List UInt8} (n : Int) (H : Heap) (h : FileR H p r l bl size) (hc : n < 0 ∨ n > 65536) :
    Cl Try.prog pr06 56 [.ptr (some (p, 0)), .int .i64 n] H fun v H' => v = .tuple [.int .i64 0, .int .i64 (if n < 0 then 22 else 27)] ∧ H' = H := by
  refine Cl.enter Try.func56 rfl rfl Try.ntmps56 (by simp) ?_
  by_cases c1 : n < 0
  · refine walk none0 ?_
    exact ⟨by rw [if_pos c1], rfl⟩
  refine walk none0 ?_
  exact ⟨by rw [if_neg c1], rfl⟩

/-- What a cut has left so far. -/
structure Cutting (H H' : Heap) (p r : Nat) (l l' : List (Int × Nat)) (bl bl' : Nat → List UInt8) (size : Int) (n k gone : Int) : Prop where
  rep : FileR H' p r l' bl' size
  cel : ∀ j, cell l' bl' j = if n ≤ j ∧ j < 64 * k then 0 else cell l bl j
  som : ∀ q, (iget q l').isSome = ((iget q l).isSome && !(decide (n ≤ 64 * q) && decide (q < k)))
  ln : (l'.length : Int) + gone = l.length
  gn : 0 ≤ gone
  upd : Upd (fpF p r l) H H'
  fp : ∀ b, fpF p r l' b → fpF p r l b

section
variable {H H' : Heap} {p r : Nat} {l l' : List (Int × Nat)} {bl bl' : Nat → List UInt8} {size n k gone : Int}
theorem Cutting.none (w : Cutting H H' p r l l' bl bl' size n k gone) (h : iget k l' = none) (hn : n < 64 * k + 64) : Cutting H H' p r l l' bl bl' size n (k + 1) gone := by
  refine ⟨w.rep, ?_, ?_, w.ln, w.gn, w.upd, w.fp⟩
  · intro j
    have hj := w.cel j
    by_cases c : j / 64 = k
    · have e1 : cell l' bl' j = 0 := by unfold cell; rw [c, h]
      rw [e1] at hj ⊢
      by_cases c2 : n ≤ j
      · rw [if_pos ⟨c2, by omega⟩]
      · rw [if_neg (by omega)]
        rw [if_neg (by omega)] at hj
        exact hj
    · rw [hj]
      by_cases c2 : n ≤ j ∧ j < 64 * k
      · rw [if_pos c2, if_pos (by omega)]
      · rw [if_neg c2, if_neg (by omega)]
  · intro q
    rw [w.som q]
    by_cases c : q = k
    · subst c
      have := w.som q
      rw [h] at this
      cases hl : (iget q l).isSome with
      | false => simp
      | true => rw [hl] at this; simp at this
    · congr 2
      rw [Bool.eq_iff_iff]
      simp
      omega
theorem Cutting.del (w : Cutting H H' p r l l' bl bl' size n k gone) (h : (iget k l').isSome = true) (hn : n ≤ 64 * k) (hr : r < H'.next) : Cutting H (H'.set r (.map (imap .i64 (pm ptrTo (idel k l'))))) p r l (idel k l') bl bl' size n (k + 1) (gone + 1) := by
  have hone := w.rep.once
  refine ⟨w.rep.delBlk, ?_, ?_, ?_, by have := w.gn; omega, w.upd.set _ hr (fun _ => .inr (.inl rfl)), ?_⟩
  · intro j
    have hj := w.cel j
    unfold cell at hj ⊢
    rw [iget_idel hone]
    by_cases c : k = j / 64
    · rw [if_pos c, if_pos (by omega)]
    · rw [if_neg c, hj]
      by_cases c2 : n ≤ j ∧ j < 64 * k
      · rw [if_pos c2, if_pos (by omega)]
      · rw [if_neg c2, if_neg (by omega)]
  · intro q
    rw [iget_idel hone]
    by_cases c : k = q
    · subst c
      rw [if_pos rfl]
      simp
      intro _
      omega
    · rw [if_neg c, w.som q]
      congr 2
      rw [Bool.eq_iff_iff]
      simp
      omega
  · rw [idel_len, if_pos h]
    have := w.ln
    have h0 : 0 < l'.length := by
      cases l' with
      | nil => simp [iget] at h
      | cons _ _ => simp
    omega
  · rintro b (rfl | rfl | ⟨k', hk⟩)
    · exact .inl rfl
    · exact .inr (.inl rfl)
    · exact w.fp b (.inr (.inr ⟨k', mem_idel hk⟩))
theorem Cutting.clear {b : Nat} (w : Cutting H H' p r l l' bl bl' size n k gone) (h : iget k l' = some b) (hn : 64 * k < n ∧ n < 64 * k + 64) (hb : b < H'.next) :
    Cutting H (H'.set b (.cells (cellsOfBytes ((bl' b).take (n % 64).toNat ++ zeroB (64 - n % 64).toNat)) 117 true false)) p r l l' bl (updB bl' b ((bl' b).take (n % 64).toNat ++ zeroB (64 - n % 64).toNat)) size n (k + 1) gone := by
  have hbl := (w.rep.blk _ _ (iget_mem h)).2
  refine ⟨w.rep.setBlk (iget_mem h) (by simp [hbl]; omega), ?_, ?_, w.ln, w.gn, w.upd.set _ hb (fun _ => w.fp b (.inr (.inr ⟨_, iget_mem h⟩))), w.fp⟩
  · intro j
    have hj := w.cel j
    by_cases c : j / 64 = k
    · unfold cell at hj ⊢
      rw [c, h] at hj ⊢
      simp only [updB, if_true] at hj ⊢
      have hq : 0 ≤ j % 64 ∧ j % 64 < 64 := ⟨by omega, by omega⟩
      by_cases c2 : n ≤ j
      · rw [if_pos ⟨c2, by omega⟩]
        rw [getD_appR (by simp [hbl]; omega)]
        unfold zeroB
        simp only [List.getD, List.getElem?_replicate]
        split <;> rfl
      · rw [if_neg (by omega)]
        rw [if_neg (by omega)] at hj
        rw [getD_appL (by simp [hbl]; omega), ← hj]
        simp [List.getD, List.getElem?_take, show (j % 64).toNat < (n % 64).toNat from by omega]
    · rw [cell_upd_ne (fun b' h1 h2 => c (w.rep.inj _ _ b (iget_mem (by rw [← h2]; exact h1)) (iget_mem h))), hj]
      by_cases c2 : n ≤ j ∧ j < 64 * k
      · rw [if_pos c2, if_pos (by omega)]
      · rw [if_neg c2, if_neg (by omega)]
  · intro q
    rw [w.som q]
    congr 2
    rw [Bool.eq_iff_iff]
    simp
    omega
end

set_option maxHeartbeats 1000000 in
theorem trunc_yes {p r : Nat} {size : Int} {l : List (Int × Nat)} {bl : Nat → List UInt8} (n : Int) (H : Heap) (h : FileR H p r l bl size) (hc : 0 ≤ n ∧ n ≤ 65536) (hsz : 0 ≤ size ∧ size ≤ 65536) (hz : ∀ j, size ≤ j → cell l bl j = 0) (hks : ∀ q, (iget q l).isSome = true → 64 * q < size) :
    Cl Try.prog pr06 56 [.ptr (some (p, 0)), .int .i64 n] H fun v H' => ∃ gone l' bl', v = .tuple [.int .i64 gone, .int .i64 0] ∧ FileR H' p r l' bl' n ∧ (∀ j, cell l' bl' j = if j < n then cell l bl j else 0) ∧
      (∀ q, (iget q l').isSome = ((iget q l).isSome && decide (64 * q < n))) ∧ (l'.length : Int) + gone = l.length ∧ Upd (fpF p r l) H H' ∧ ∀ b, fpF p r l' b → fpF p r l b := by
  refine Cl.wf fun hw => ?_
  refine Cl.enter Try.func56 rfl rfl Try.ntmps56 (by simp) ?_
  refine walk none0 ?_
  refine Wq.loop (fun m e H' => ∃ (i : Nat) (l' : List (Int × Nat)) (bl' : Nat → List UInt8) (gone : Int), e 0 = .ptr (some (p, 0)) ∧ e 1 = .int .i64 n ∧ e 6 = .int .i64 gone ∧ e 7 = .int .i64 (n / 64 + i) ∧ m = 2000 - i ∧ i ≤ 1025 ∧ gone ≤ i ∧ Wf H' ∧ Cutting H H' p r l l' bl bl' size n (n / 64 + i) gone) 2000 ?_ ?_
  · refine ⟨0, l, bl, 0, by simp, by simp, by simp, by simp, by omega, by omega, by omega, hw, h, ?_, ?_, by omega, by omega, Upd.rfl, fun _ h => h⟩
    · intro j
      rw [if_neg (by omega)]
    · intro q
      have : (decide (n ≤ 64 * q) && decide (q < n / 64 + ((0 : Nat) : Int))) = false := by simp; omega
      rw [this]; simp
  · rintro m e H' ⟨i, l', bl', gone, g0, g1, g6, g7, rfl, hi, hgi, hw', hC⟩
    have hp' := hC.rep.p0
    have hr' := hC.rep.r0
    have hpn := hw'.lt hp'
    have hrn := hw'.lt hr'
    have hln := hC.ln
    have hgn := hC.gn
    by_cases hlt : (n / 64 + i) * 64 < size
    · cases hb' : iget (n / 64 + i) l' with
      | none =>
        refine walk (both g0 (both g1 (both g6 (both g7 (both hp' (both hr' hb')))))) ?_
        have hC1 := hC.none hb' (by omega)
        refine Roundq.normal (2000 - (i + 1)) (by omega) ⟨i + 1, l', bl', gone, by simp [g0], by simp [g1], by simp [g6], by simp; omega, rfl, by omega, by omega, hw', by rw [show n / 64 + ((i + 1 : Nat) : Int) = n / 64 + i + 1 from by omega]; exact hC1⟩
      | some b =>
        have hblk := hC.rep.blk _ _ (iget_mem hb')
        have hbn := hw'.lt hblk.1
        by_cases hd : n ≤ (n / 64 + i) * 64
        · have hdel : ∀ H, delI (n / 64 + i) .i64 r (imap .i64 (pm ptrTo l')) H = some (.undef, H.set r (.map (imap .i64 (idel (n / 64 + i) (pm ptrTo l'))))) := fun H => delI_some (by simp [hb'])
          have hll : (l'.length : Int) ≤ l.length := by omega
          refine walk (both g0 (both g1 (both g6 (both g7 (both hp' (both hr' (both hb' hdel))))))) ?_
          have hC1 := hC.del (by rw [hb']; rfl) (by omega) hrn
          refine Roundq.normal (2000 - (i + 1)) (by omega) ⟨i + 1, _, bl', gone + 1, by simp [g0], by simp [g1], by simp [g6], by simp; omega, rfl, by omega, by omega, set_wf hrn _ hw', by rw [show n / 64 + ((i + 1 : Nat) : Int) = n / 64 + i + 1 from by omega]; exact hC1⟩
        · have h0i : i = 0 := by omega
          subst h0i
          have hm : 0 < n % 64 ∧ n % 64 < 64 := by omega
          have hbl := hblk.2
          have hblk1 := hblk.1
          have hb0 : iget (n / 64) l' = some b := by simpa using hb'
          refine walk (both g0 (both g1 (both g6 (both g7 (both hp' (both hr' hb0)))))) ?_
          refine Oq.clear (b := b) (o := (n % 64).toNat) (k := (64 - n % 64).toNat) (cd := cellsOfBytes (bl' b)) (by simp (disch := omega) [g0, g1, g6, g7, hp', hr', hb0]; first | done | (repeat' (first | rfl | apply And.intro))) ⟨_, rfl, by simp; first | done | exact ⟨rfl, rfl, rfl⟩ | rfl⟩ (by omega) (by rw [hblk1]) (by rw [cellsOfBytes_len]; omega) rfl ?_
          have e1 : List.take (n % 64).toNat (cellsOfBytes (bl' b)) ++ (List.replicate (64 - n % 64).toNat (AV.int IntKind.u8 0) ++ List.drop ((n % 64).toNat + (64 - n % 64).toNat) (cellsOfBytes (bl' b))) = cellsOfBytes ((bl' b).take (n % 64).toNat ++ zeroB (64 - n % 64).toNat) := by
            rw [cellsOfBytes_app, cellsOfBytes_take, List.drop_eq_nil_of_le (by rw [cellsOfBytes_len]; omega), List.append_nil]
            simp [cellsOfBytes, zeroB]
          rw [e1]
          refine walk (both g0 (both g1 (both g6 (both g7 (both hp' (both hr' hb0)))))) ?_
          have hC1 := hC.clear hb' (by omega) hbn
          refine Roundq.normal (2000 - 1) (by omega) ⟨1, l', _, gone, by simp [g0], by simp [g1], by simp [g6], by simp, rfl, by omega, by omega, set_wf hbn _ hw', by rw [show n / 64 + ((1 : Nat) : Int) = n / 64 + ((0 : Nat) : Int) + 1 from by omega]; exact hC1⟩
    · refine walk (both g0 (both g1 (both g6 (both g7 (both hp' hr'))))) ?_
      refine ⟨gone, l', bl', rfl, hC.rep.setSize, ?_, ?_, hC.ln, hC.upd.set _ hpn (fun _ => .inl rfl), hC.fp⟩
      · intro j
        rw [hC.cel j]
        by_cases c : j < n
        · rw [if_pos c, if_neg (by omega)]
        · rw [if_neg c]
          by_cases c2 : j < 64 * (n / 64 + i)
          · rw [if_pos ⟨by omega, c2⟩]
          · rw [if_neg (by omega), hz j (by omega)]
      · intro q
        rw [hC.som q]
        cases hq : (iget q l).isSome with
        | false => rfl
        | true =>
          have := hks q hq
          simp
          rw [Bool.eq_iff_iff]
          simp
          omega
end Go.Abs

/- Chapter 06: the document's answer, walked. -/
namespace Go.Abs
open Go.Proofs
set_option maxRecDepth 100000
set_option linter.unusedVariables false
set_option linter.unusedSimpArgs false

/-- A slice of bytes whose block can be looked at, even where it is empty. -/
def LiveS (H : Heap) (v : AV) : Prop := ∀ b o n c x, v = .slice (some (b, o)) n c x → b < H.next ∧ ∃ cs t w m, H.get b = some (.cells cs t w m) ∧ o + n ≤ cs.length
theorem LiveS.upd {H H' : Heap} {v : AV} {fp : Nat → Prop} (h : LiveS H v) (u : Upd fp H H') (hd : ∀ b, slBlock v = some b → ¬ fp b) : LiveS H' v := by
  rintro b o n c x rfl
  obtain ⟨h1, cs, t, w, m, h2, h3⟩ := h b o n c x rfl
  exact ⟨Nat.lt_of_lt_of_le h1 u.next, cs, t, w, m, (u.keep b h1 (hd b rfl)).trans h2, h3⟩
theorem LiveS.kept {H H' : Heap} {v : AV} (h : LiveS H v) (k : Keep H H') : LiveS H' v := h.upd k fun _ _ => id
theorem LiveS.set {H : Heap} {v : AV} {b : Nat} (h : LiveS H v) (o : AObj) (hb : slBlock v ≠ some b) : LiveS (H.set b o) v := by
  rintro b' o' n c x rfl
  obtain ⟨h1, cs, t, w, m, h2, h3⟩ := h b' o' n c x rfl
  exact ⟨h1, cs, t, w, m, by rw [Heap.get_set, if_neg (fun e => hb (by rw [← e]; rfl))]; exact h2, h3⟩
theorem OwnSl.live {H : Heap} {elem n : Nat} {v : AV} {cs : List AV} (h : OwnSl H elem 1 v n cs) : LiveS H v := by
  rintro b o n' c x rfl
  rcases h with ⟨e, _, _⟩ | ⟨b', sl, e, _, h2, h3, h4⟩
  · cases e
  · simp at e
    obtain ⟨⟨rfl, rfl⟩, rfl, _, _⟩ := e
    exact ⟨h3, cs, elem, true, false, h4, by omega⟩
/-- A file of the reference's, as a value. -/
def RefR (H : Heap) (v : AV) (B : List UInt8) (Has : List Bool) : Prop := ∃ a c x a' c' x', v = .agg [.slice a B.length c x, .slice a' Has.length c' x'] ∧ Sl H 1 (.slice a B.length c x) B.length (cellsOfBytes B) ∧ Sl H 1 (.slice a' Has.length c' x') Has.length (Has.map AV.bool) ∧ LiveS H (.slice a B.length c x)
theorem RefR.kept {H H' : Heap} {v : AV} {B : List UInt8} {Has : List Bool} (h : RefR H v B Has) (k : Keep H H') : RefR H' v B Has := by
  obtain ⟨a, c, x, a', c', x', e, h1, h2, h3⟩ := h
  exact ⟨a, c, x, a', c', x', e, h1.kept k, h2.kept k, h3.kept k⟩
def hasF (Has : List Bool) (k : Int) : Bool := decide (0 ≤ k) && Has.getD k.toNat false

theorem rhas_ok (B : List UInt8) (Has : List Bool) (k : Int) (hk : 0 ≤ k) (v : AV) (H : Heap) (h : RefR H v B Has) :
    Cl Try.prog pr06 79 [v, .int .i64 k] H fun w H' => w = .bool (hasF Has k) ∧ Keep H H' := by
  obtain ⟨a, c, x, a', c', x', rfl, h1, h2, hLv⟩ := h
  refine Cl.enter Try.func79 rfl rfl Try.ntmps79 (by simp) ?_
  by_cases hlt : k < Has.length
  · obtain ⟨b, o, cs, t, w, m, rfl, hb1, hb2, hb3, hb4⟩ := h2.at (by omega)
    have hx := sub_get hb4 (i := k.toNat) (by omega)
    have hg : Has[k.toNat]? = some (Has[k.toNat]'(by omega)) := List.getElem?_eq_getElem (by omega)
    rw [List.getElem?_map, hg, Option.map_some] at hx
    refine walk (both hb2 hx) ?_
    refine ⟨?_, Upd.rfl.push _⟩
    simp [hasF, hk, List.getD, hg]
  · refine walk none0 ?_
    refine ⟨?_, Upd.rfl.push _⟩
    simp [hasF, List.getD, List.getElem?_eq_none (by omega : Has.length ≤ k.toNat)]

theorem rblocks_ok (B : List UInt8) (Has : List Bool) (hl : Has.length ≤ 2000) (v : AV) (H : Heap) (h : RefR H v B Has) :
    Cl Try.prog pr06 61 [v] H fun w H' => w = .int .i64 (Has.count true) ∧ Keep H H' := by
  obtain ⟨a, c, x, a', c', x', rfl, h1, h2, hLv⟩ := h
  refine Cl.enter Try.func61 rfl rfl Try.ntmps61 (by simp) ?_
  refine walk none0 ?_
  refine Wq.loop (fun m e H' => ∃ i : Nat, i ≤ Has.length ∧ e 1 = .ptr (some (H.next, 0)) ∧ e 3 = .int .i64 ((Has.take i).count true) ∧ e 4 = .int .i64 i ∧ m = Has.length - i ∧ Keep H H' ∧ H'.get H.next = some (.cells [.slice a B.length c x, .slice a' Has.length c' x'] 56 true false)) Has.length ?_ ?_
  · exact ⟨0, by omega, by simp, by simp, by simp, by omega, Upd.rfl.push _, by simp⟩
  · rintro m e H' ⟨i, hi, g1, g3, g4, rfl, hk, hg⟩
    by_cases hlt : i < Has.length
    · obtain ⟨b, o, cs, t, w, m, rfl, hb1, hb2, hb3, hb4⟩ := (h2.kept hk).at (by omega)
      have hx := sub_get hb4 (i := i) (by omega)
      have hgi : Has[i]? = some (Has[i]'(by omega)) := List.getElem?_eq_getElem (by omega)
      rw [List.getElem?_map, hgi, Option.map_some] at hx
      have hc : (Has.take (i + 1)).count true = (Has.take i).count true + if Has[i] then 1 else 0 := by
        rw [List.take_add_one, hgi, List.count_append]; simp [List.count_cons]
      have hle : (Has.take i).count true ≤ i := Nat.le_trans List.count_le_length (List.length_take_le _ _)
      cases hv : Has[i] with
      | true =>
        rw [hv] at hx hc
        refine walk (both g1 (both g3 (both g4 (both hg (both hb2 hx))))) ?_
        refine Roundq.normal (Has.length - (i + 1)) (by omega) ⟨i + 1, by omega, by simp [g1], ?_, by simp [g4], rfl, hk, hg⟩
        simp [hc]
      | false =>
        rw [hv] at hx hc
        refine walk (both g1 (both g3 (both g4 (both hg (both hb2 hx))))) ?_
        refine Roundq.normal (Has.length - (i + 1)) (by omega) ⟨i + 1, by omega, by simp [g1], ?_, by simp [g4], rfl, hk, hg⟩
        simp [hc, g3]
    · have : i = Has.length := by omega
      subst this
      refine walk (both g1 (both g3 (both g4 hg))) ?_
      exact ⟨rfl, hk⟩

theorem rneed_ok (B : List UInt8) (Has : List Bool) (off n : Int) (hof : -9223372036854775808 ≤ off ∧ off ≤ 9223372036854775807) (hn : -9223372036854775808 ≤ n ∧ n ≤ 9223372036854775807) (v : AV) (H : Heap) (h : RefR H v B Has) :
    Cl Try.prog pr06 65 [v, .int .i64 off, .int .i64 n] H fun w H' => w = .int .i64 (needN (hasF Has) off n) ∧ Keep H H' := by
  have h' := h
  obtain ⟨a, c, x, a', c', x', rfl, h1, h2, hLv⟩ := h
  refine Cl.enter Try.func65 rfl rfl Try.ntmps65 (by simp) ?_
  by_cases hc : off < 0 ∨ n < 1 ∨ off > 65536 ∨ n > 65536 - off
  · have e1 : needN (hasF Has) off n = 0 := by unfold needN; rw [if_pos hc]
    rw [e1]
    by_cases c1 : off < 0
    · refine walk none0 ?_
      exact ⟨rfl, Upd.rfl.push _⟩
    by_cases c2 : n < 1
    · refine walk none0 ?_
      exact ⟨rfl, Upd.rfl.push _⟩
    by_cases c3 : off > 65536
    · refine walk none0 ?_
      exact ⟨rfl, Upd.rfl.push _⟩
    refine walk none0 ?_
    exact ⟨rfl, Upd.rfl.push _⟩
  · have e1 : needN (hasF Has) off n = lackN (hasF Has) (off / 64) (cntOf off n) := by unfold needN; rw [if_neg hc]
    rw [e1]
    have c1 : 0 ≤ off ∧ 0 < n ∧ off + n ≤ 65536 := by omega
    have hC : (cntOf off n : Int) = (off + n + 63) / 64 - off / 64 := by unfold cntOf; omega
    generalize cntOf off n = C at *
    refine walk none0 ?_
    refine Wq.loop (fun m e H' => ∃ i : Nat, i ≤ C ∧ e 1 = .int .i64 off ∧ e 2 = .int .i64 n ∧ e 3 = .ptr (some (H.next, 0)) ∧ e 7 = .int .i64 (lackN (hasF Has) (off / 64) i) ∧ e 8 = .int .i64 (off / 64 + i) ∧ m = C - i ∧ Keep H H' ∧ H.next < H'.next ∧ H'.get H.next = some (.cells [.slice a B.length c x, .slice a' Has.length c' x'] 56 true false)) C ?_ ?_
    · exact ⟨0, by omega, by simp, by simp, by simp, by simp [lackN], by simp, by omega, Upd.rfl.push _, by simp, by simp⟩
    · rintro m e H' ⟨i, hi, g1, g2, g3, g7, g8, rfl, hk, hnx, hg⟩
      have hbd := lackN_bd (hasF Has) (off / 64) i
      by_cases hlt : i < C
      · refine walk (both g1 (both g2 (both g3 (both g7 (both g8 hg))))) ?_
        refine (rhas_ok B Has (off / 64 + i) (by omega) _ H' (h'.kept hk)).mono fun w H2 hn2 ⟨e2, hk2⟩ => ?_
        subst e2
        have hstep : lackN (hasF Has) (off / 64) (i + 1) = lackN (hasF Has) (off / 64) i + if hasF Has (off / 64 + i) then 0 else 1 := rfl
        cases hv : hasF Has (off / 64 + i) with
        | true =>
          rw [hv] at hstep
          refine walk (both g1 (both g2 (both g3 (both g7 g8)))) ?_
          refine Roundq.normal (C - (i + 1)) (by omega) ⟨i + 1, by omega, by simp [g1], by simp [g2], by simp [g3], by simp [g7, hstep], by simp; omega, rfl, hk.then hk2, by omega, (hk2.get hnx).trans hg⟩
        | false =>
          rw [hv] at hstep
          refine walk (both g1 (both g2 (both g3 (both g7 g8)))) ?_
          refine Roundq.normal (C - (i + 1)) (by omega) ⟨i + 1, by omega, by simp [g1], by simp [g2], by simp [g3], by simp [hstep], by simp; omega, rfl, hk.then hk2, by omega, (hk2.get hnx).trans hg⟩
      · have : i = C := by omega
        subst this
        refine walk (both g1 (both g2 (both g3 (both g7 g8)))) ?_
        exact ⟨rfl, hk⟩
end Go.Abs

/- Chapter 06: the document's answer, walked: reads, and files in memory of their own. -/
namespace Go.Abs
open Go.Proofs
set_option maxRecDepth 100000
set_option linter.unusedVariables false
set_option linter.unusedSimpArgs false

def rdB (B : List UInt8) (off n : Int) : List UInt8 := if off < 0 then [] else (B.drop off.toNat).take n.toNat

theorem rread_ok (B : List UInt8) (Has : List Bool) (hB : B.length ≤ 65536) (off n : Int) (hof : -9223372036854775808 ≤ off ∧ off ≤ 9223372036854775807) (hn : -9223372036854775808 ≤ n ∧ n ≤ 9223372036854775807) (v : AV) (H : Heap) (h : RefR H v B Has) :
    Cl Try.prog pr06 47 [v, .int .i64 off, .int .i64 n] H fun w H' => Fresh H H' 5 1 w (rdB B off n).length (cellsOfBytes (rdB B off n)) := by
  obtain ⟨a, c, x, a', c', x', rfl, h1, h2, hLv⟩ := h
  refine Cl.enter Try.func47 rfl rfl Try.ntmps47 (by simp) ?_
  by_cases hc : off < 0 ∨ off ≥ B.length
  · have e1 : rdB B off n = [] := by
      unfold rdB
      by_cases c1 : off < 0
      · rw [if_pos c1]
      · rw [if_neg c1, List.drop_eq_nil_of_le (by omega), List.take_nil]
    rw [e1]
    by_cases c1 : off < 0
    · refine walk none0 ?_
      exact Fresh.made ((Upd.rfl.push _).push _) (by simp [cellsOfBytes_nil]) (by omega) (by simp) (by simp [cellsOfBytes_nil])
    · refine walk none0 ?_
      exact Fresh.made ((Upd.rfl.push _).push _) (by simp [cellsOfBytes_nil]) (by omega) (by simp) (by simp [cellsOfBytes_nil])
  · have e1 : rdB B off n = (B.drop off.toNat).take n.toNat := by unfold rdB; rw [if_neg (by omega)]
    rw [e1]
    refine walk none0 ?_
    refine Wq.loop (fun m e H' => ∃ (j : Nat) (w : AV), j ≤ ((B.drop off.toNat).take n.toNat).length ∧ e 1 = .int .i64 off ∧ e 2 = .int .i64 n ∧ e 3 = .ptr (some (H.next, 0)) ∧ e 7 = w ∧ e 8 = .int .i64 (off + j) ∧ m = 70000 - j ∧ H'.get H.next = some (.cells [.slice a B.length c x, .slice a' Has.length c' x'] 56 true false) ∧ H.next < H'.next ∧ Fresh (H.push (.cells [.slice a B.length c x, .slice a' Has.length c' x'] 56 true false)) H' 5 1 w j (cellsOfBytes ((B.drop off.toNat).take j))) 70000 ?_ ?_
    · exact ⟨0, _, by omega, by simp, by simp, by simp, by simp; rfl, by simp, by omega, by simp, by simp; omega, Fresh.made (Upd.rfl.push _) (by simp [cellsOfBytes_nil]) (by simp) (by simp) (by simp [cellsOfBytes_nil])⟩
    · rintro m e H' ⟨j, w, hj, g1, g2, g3, g7, g8, rfl, hg, hnx, hf⟩
      have hj' := hj
      simp only [List.length_take, List.length_drop] at hj'
      by_cases hlt : j < ((B.drop off.toNat).take n.toNat).length
      · have hlt' := hlt
        simp only [List.length_take, List.length_drop] at hlt'
        have hk := (Upd.rfl (fp := nobody)).push (H1 := H) (.cells [.slice a B.length c x, .slice a' Has.length c' x'] 56 true false)
        have hS := (h1.kept hk).kept hf.keep
        obtain ⟨b, o, cs, t, w0, m, rfl, hb1, hb2, hb3, hb4⟩ := hS.at (by omega)
        have hx := sub_get hb4 (i := (off + j).toNat) (by omega)
        have hgi : B[(off + j).toNat]? = some (B[(off + j).toNat]'(by omega)) := List.getElem?_eq_getElem (by omega)
        rw [cellsOfBytes_get, hgi, Option.map_some] at hx
        refine walk (both g1 (both g2 (both g3 (both g7 (both g8 (both hg (both hb2 hx))))))) ?_
        refine Oq.append (own := (hf.push _).own) (new := [.int .u8 (B[(off + j).toNat]'(by omega)).toNat]) (m := 1) (by simp (disch := omega) [g1, g2, g3, g7, g8, hg, -getElem?_pos, wrapI64, tdivN, tmodN, ipos, ineg, dpos, dneg, slc_l, slc_h, slc_lh, slc_hm, slc_lhm, slc_0, slcR_some, slcR_none, cutS_ok, cutA_ok, byteAt_ok]; first | done | (repeat' (first | rfl | apply And.intro))) ⟨_, rfl, by simp; first | done | (repeat' (first | rfl | apply And.intro))⟩ rfl (by kernel_rfl) (by kernel_rfl) (by refine ⟨by simp, ?_⟩; simp (disch := omega) [srcCells, cellsAt, g1, g2, g3, g7, g8, hg, -getElem?_pos, wrapI64, tdivN, tmodN, ipos, ineg, dpos, dneg, slc_l, slc_h, slc_lh, slc_hm, slc_lhm, slc_0, slcR_some, slcR_none, cutS_ok, cutA_ok, byteAt_ok]; first | done | rfl) (by simp [g1, g2, g3, g7, g8, hg]) (by simp [g1, g2, g3, g7, g8, hg]) (by omega) (by omega) fun w1 H3 o1 b1 s1 => ?_
        refine walk (both g1 (both g2 (both g3 (both g7 (both g8 hg))))) ?_
        have hf2 := (hf.push _).app o1 b1 s1
        have e2 : cellsOfBytes ((B.drop off.toNat).take (j + 1)) = cellsOfBytes ((B.drop off.toNat).take j) ++ [AV.int .u8 (B[(off + j).toNat]'(by omega)).toNat] := by
          rw [List.take_add_one, List.getElem?_drop, show off.toNat + j = (off + j).toNat from by omega, hgi, cellsOfBytes_app]; rfl
        rw [← e2] at hf2
        refine Roundq.normal (70000 - (j + 1)) (by omega) ⟨j + 1, w1, by omega, by simp [g1], by simp [g2], by simp [g3], by simp, by simp; omega, rfl, ?_, by have := hf2.keep.next; simp at this; omega, hf2⟩
        rw [b1.2.2 H.next (by simp; omega) (fun e => (hf.ne (b := H.next) (by simp)) e.symm), Heap.get_push, if_neg (by omega)]
        exact hg
      · have hlt' := hlt
        simp only [List.length_take, List.length_drop] at hlt'
        have hje : j = ((B.drop off.toNat).take n.toNat).length := by omega
        have e2 : (B.drop off.toNat).take j = (B.drop off.toNat).take n.toNat := by
          rw [hje, List.length_take]
          by_cases hq : n.toNat ≤ (B.drop off.toNat).length
          · rw [Nat.min_eq_left hq]
          · rw [Nat.min_eq_right (by omega), List.take_of_length_le (Nat.le_refl _), List.take_of_length_le (by omega)]
        by_cases hlen : off + j < B.length
        · have hn2 : n ≤ j := by omega
          refine walk (both g1 (both g2 (both g3 (both g7 (both g8 hg))))) ?_
          rw [e2, hje] at hf
          exact Fresh.after (Upd.rfl.push _) hf
        · refine walk (both g1 (both g2 (both g3 (both g7 (both g8 hg))))) ?_
          rw [e2, hje] at hf
          exact Fresh.after (Upd.rfl.push _) hf

theorem own_ok (B : List UInt8) (Has : List Bool) (hB : B.length ≤ 65536) (hH : Has.length ≤ 2000) (v : AV) (H : Heap) (h : RefR H v B Has) :
    Cl Try.prog pr06 66 [v] H fun w H' => ∃ v1 v2, w = .agg [v1, v2] ∧ Fresh H H' 5 1 v1 B.length (cellsOfBytes B) ∧ Fresh H H' 4 1 v2 Has.length (Has.map AV.bool) ∧ (∀ b, slBlock v1 = some b → slBlock v2 ≠ some b) := by
  obtain ⟨a, c, x, a', c', x', rfl, h1, h2, hLv⟩ := h
  refine Cl.enter Try.func66 rfl rfl Try.ntmps66 (by simp) ?_
  refine walk none0 ?_
  refine Wq.regionM [(0, 0), (1, 0), (2, 0), (3, 0), (4, 0), (5, 0), (6, 2), (7, 0), (8, 0), (9, 0)] (by kernel_rfl) ?_
  refine mwalk none0 ?_
  refine Dq.append (own := (OwnSl.mk (n := 0) (cs := []) (by simp) (by simp) (by simp))) (new := cellsOfBytes B) (q := B.length) rfl met_none (by simp (disch := omega) [-getElem?_pos, wrapI64, tdivN, tmodN, ipos, ineg, dpos, dneg, slc_l, slc_h, slc_lh, slc_hm, slc_lhm, slc_0, slcR_some, slcR_none, cutS_ok, cutA_ok, byteAt_ok]; first | done | (repeat' (first | rfl | apply And.intro))) ⟨_, rfl, by simp; first | done | (repeat' (first | rfl | apply And.intro))⟩ rfl (by kernel_rfl) (by kernel_rfl) ((((h1.push _).push _).push _).src') (by simp) (cellsOfBytes_one _) (by omega) (by omega) fun w1 H1 o1 b1 s1 => ?_
  have hn1 := b1.1
  simp at hn1
  have hg1 : H1.get H.next = some (.cells [.slice a B.length c x, .slice a' Has.length c' x'] 56 true false) := by
    rw [b1.2.2 H.next (by simp <;> omega) (by simp [slBlock] <;> omega)]
    simp (disch := omega) [ineg]
  have hg2 : H1.get (H.next + 1) = some (.cells [.slice none 0 0 none, .slice none 0 0 none] 56 true false) := by
    rw [b1.2.2 (H.next + 1) (by simp <;> omega) (by simp [slBlock] <;> omega)]
    simp (disch := omega) [ineg]
  have k1 : Keep H H1 := (((Upd.rfl.push _).push _).push _).butOne b1 (fun b hb hl => by simp [slBlock] at hb; omega)
  refine mwalk hg1 ?_
  refine Dq.append (own := (OwnSl.mk (n := 0) (cs := []) (by simp) (by simp) (by simp))) (new := Has.map AV.bool) (q := Has.length) rfl met_none (by simp (disch := omega) [-getElem?_pos, wrapI64, tdivN, tmodN, ipos, ineg, dpos, dneg, slc_l, slc_h, slc_lh, slc_hm, slc_lhm, slc_0, slcR_some, slcR_none, cutS_ok, cutA_ok, byteAt_ok]; first | done | (repeat' (first | rfl | apply And.intro))) ⟨_, rfl, by simp; first | done | (repeat' (first | rfl | apply And.intro))⟩ rfl (by kernel_rfl) (by kernel_rfl) (((h2.kept k1).push _).src') (by simp) (by rw [List.all_eq_true]; intro x hx; simp at hx; rcases hx with ⟨_, rfl⟩ | ⟨_, rfl⟩ <;> rfl) (by omega) (by omega) fun w2 H2 o2 b2 s2 => ?_
  have hn2 := b2.1
  simp at hn2
  have hg3 : H2.get (H.next + 1) = some (.cells [.slice none 0 0 none, .slice none 0 0 none] 56 true false) := by
    rw [b2.2.2 (H.next + 1) (by simp; omega) (by simp [slBlock]; omega)]
    simp (disch := omega) [ineg, hg2]
  have k2 : Keep H1 H2 := (Upd.rfl.push _).butOne b2 (fun b hb hl => by simp [slBlock] at hb; omega)
  obtain ⟨wa1, wx1, rfl, _⟩ := o1.form
  obtain ⟨wa2, wx2, rfl, _⟩ := o2.form
  refine mwalk hg3 ?_
  refine walk none0 ?_
  have nb1 : ∀ b, slBlock (.slice wa1 (0 + B.length) (0 + B.length) wx1) = some b → H.next + 2 ≤ b := by
    intro b hb
    rcases s1 with s1 | s1
    · rw [s1] at hb; simp [slBlock] at hb; omega
    · rw [s1] at hb; simp at hb; omega
  have nb2 : ∀ b, slBlock (.slice wa2 (0 + Has.length) (0 + Has.length) wx2) = some b → H1.next ≤ b := by
    intro b hb
    rcases s2 with s2 | s2
    · rw [s2] at hb; simp [slBlock] at hb; omega
    · rw [s2] at hb; simp at hb; omega
  have hlt1 := o1.lt
  rw [Nat.zero_add, List.nil_append] at *
  have k3 : ∀ o, Keep H2 (H2.push o) := fun o => Upd.rfl.push _
  refine ⟨_, _, rfl, ⟨(o1.kept k2).set _ (fun e => by have := nb1 _ e; omega), ((k1.then k2).set _ (by omega) (by omega)), fun b hb => by have := nb1 b hb; omega⟩, ⟨o2.set _ (fun e => by have := nb2 _ e; omega), ((k1.then k2).set _ (by omega) (by omega)), fun b hb => by have := nb2 b hb; omega⟩, fun b hb e => by have := hlt1 b hb; have := nb2 b e; omega⟩
end Go.Abs

/- Chapter 06: the document's answer, walked: a file that is made. -/
namespace Go.Abs
open Go.Proofs
set_option maxRecDepth 100000
set_option linter.unusedVariables false
set_option linter.unusedSimpArgs false

/-- A file of the reference's in the making, in a block of its own. -/
structure G2 (H0 H : Heap) (g : Nat) (v1 v2 : AV) (B : List UInt8) (Has : List Bool) : Prop where
  hg : H.get g = some (.cells [v1, v2] 56 true false)
  o1 : OwnSl H 5 1 v1 B.length (cellsOfBytes B)
  o2 : OwnSl H 4 1 v2 Has.length (Has.map AV.bool)
  keep : Keep H0 H
  gn : H0.next ≤ g
  gl : g < H.next
  n1 : ∀ b, slBlock v1 = some b → H0.next ≤ b
  n2 : ∀ b, slBlock v2 = some b → H0.next ≤ b

theorem own_ne {H : Heap} {u s n : Nat} {v : AV} {cs : List AV} {g t : Nat} {ds : List AV} {w m : Bool} (h : OwnSl H u s v n cs) (hg : H.get g = some (.cells ds t w m)) (hne : u ≠ t) : ∀ b, slBlock v = some b → b ≠ g := by
  rintro b hb rfl
  rcases h with ⟨rfl, _, _⟩ | ⟨b', sl, rfl, _, _, _, h4⟩
  · cases hb
  · simp [slBlock] at hb
    subst hb
    rw [hg] at h4
    simp at h4
    exact hne h4.2.1.symm
theorem own_ne2 {H : Heap} {u s n u' s' n' : Nat} {v v' : AV} {cs cs' : List AV} (h : OwnSl H u s v n cs) (h' : OwnSl H u' s' v' n' cs') (hne : u ≠ u') : ∀ b, slBlock v = some b → slBlock v' ≠ some b := by
  intro b hb e
  rcases h' with ⟨rfl, _, _⟩ | ⟨b', sl, rfl, _, _, _, h4⟩
  · cases e
  · simp [slBlock] at e
    subst e
    exact own_ne h h4 hne _ hb rfl

section
variable {H0 H H1 : Heap} {g : Nat} {v1 v2 w : AV} {B C : List UInt8} {Has : List Bool} {i : Nat}
theorem G2.push (h : G2 H0 H g v1 v2 B Has) (o : AObj) : G2 H0 (H.push o) g v1 v2 B Has :=
  ⟨by rw [Heap.get_push, if_neg (by have := h.gl; omega)]; exact h.hg, h.o1.push o, h.o2.push o, h.keep.push o, h.gn, by have := h.gl; simp; omega, h.n1, h.n2⟩
theorem G2.appB (h : G2 H0 H g v1 v2 B Has) (o : OwnSl H1 5 1 w (B.length + C.length) (cellsOfBytes B ++ cellsOfBytes C)) (b : ButOne (slBlock v1) H H1) (hs : slBlock w = slBlock v1 ∨ slBlock w = some H.next) :
    H1.get g = some (.cells [v1, v2] 56 true false) ∧ G2 H0 (H1.set g (.cells [w, v2] 56 true false)) g w v2 (B ++ C) Has := by
  have hg1 : H1.get g = some (.cells [v1, v2] 56 true false) := (b.2.2 g h.gl (fun e => own_ne h.o1 h.hg (by decide) g e.symm rfl)).trans h.hg
  refine ⟨hg1, by rw [Heap.get_set, if_pos rfl], ?_, ?_, ?_, h.gn, by have := b.1; have := h.gl; simp; omega, ?_, h.n2⟩
  · rw [List.length_append, cellsOfBytes_app]
    exact o.set _ (fun e => own_ne o hg1 (by decide) g e rfl)
  · have o2 := h.o2.butOne b fun b hb e => own_ne2 h.o1 h.o2 (by decide) b e hb
    exact o2.set _ (fun e => own_ne o2 hg1 (by decide) g e rfl)
  · have := h.gn; have := h.gl; have := b.1
    exact (h.keep.butOne b fun x hx hl => by have := h.n1 x hx; omega).set _ (by omega) (by omega)
  · intro x hx
    rcases hs with hs | hs
    · exact h.n1 x (hs ▸ hx)
    · rw [hs] at hx; injection hx with hx; have := h.keep.next; omega
theorem G2.appH {Cs : List Bool} (h : G2 H0 H g v1 v2 B Has) (o : OwnSl H1 4 1 w (Has.length + Cs.length) (Has.map AV.bool ++ Cs.map AV.bool)) (b : ButOne (slBlock v2) H H1) (hs : slBlock w = slBlock v2 ∨ slBlock w = some H.next) :
    H1.get g = some (.cells [v1, v2] 56 true false) ∧ G2 H0 (H1.set g (.cells [v1, w] 56 true false)) g v1 w B (Has ++ Cs) := by
  have hg1 : H1.get g = some (.cells [v1, v2] 56 true false) := (b.2.2 g h.gl (fun e => own_ne h.o2 h.hg (by decide) g e.symm rfl)).trans h.hg
  refine ⟨hg1, by rw [Heap.get_set, if_pos rfl], ?_, ?_, ?_, h.gn, by have := b.1; have := h.gl; simp; omega, h.n1, ?_⟩
  · have o1 := h.o1.butOne b fun b hb e => own_ne2 h.o1 h.o2 (by decide) b hb e
    exact o1.set _ (fun e => own_ne o1 hg1 (by decide) g e rfl)
  · rw [List.length_append, List.map_append]
    exact o.set _ (fun e => own_ne o hg1 (by decide) g e rfl)
  · have := h.gn; have := h.gl; have := b.1
    exact (h.keep.butOne b fun x hx hl => by have := h.n2 x hx; omega).set _ (by omega) (by omega)
  · intro x hx
    rcases hs with hs | hs
    · exact h.n2 x (hs ▸ hx)
    · rw [hs] at hx; injection hx with hx; have := h.keep.next; omega
/-- Its block of bytes. -/
theorem G2.at1 (h : G2 H0 H g v1 v2 B Has) (h0 : 0 < B.length) : ∃ b x, v1 = .slice (some (b, 0)) B.length B.length x ∧ H.get b = some (.cells (cellsOfBytes B) 5 true false) ∧ b < H.next ∧ b ≠ g ∧ H0.next ≤ b := by
  rcases h.o1 with ⟨_, e, _⟩ | ⟨b, sl, e, _, _, h3, h4⟩
  · omega
  · exact ⟨b, sl, e, h4, h3, own_ne h.o1 h.hg (by decide) b (by rw [e]; rfl), h.n1 b (by rw [e]; rfl)⟩
theorem G2.at2 (h : G2 H0 H g v1 v2 B Has) (h0 : 0 < Has.length) : ∃ b x, v2 = .slice (some (b, 0)) Has.length Has.length x ∧ H.get b = some (.cells (Has.map AV.bool) 4 true false) ∧ b < H.next ∧ b ≠ g ∧ H0.next ≤ b := by
  rcases h.o2 with ⟨_, e, _⟩ | ⟨b, sl, e, _, _, h3, h4⟩
  · omega
  · exact ⟨b, sl, e, h4, h3, own_ne h.o2 h.hg (by decide) b (by rw [e]; rfl), h.n2 b (by rw [e]; rfl)⟩
theorem G2.setB {b : Nat} {x : UInt8} (h : G2 H0 H g v1 v2 B Has) (hb : slBlock v1 = some b) : G2 H0 (H.set b (.cells ((cellsOfBytes B).set i (.int .u8 x.toNat)) 5 true false)) g v1 v2 (B.set i x) Has := by
  have hbg := own_ne h.o1 h.hg (by decide) b hb
  have hbn := h.n1 b hb
  have e1 : cellsOfBytes (B.set i x) = (cellsOfBytes B).set i (.int .u8 x.toNat) := by simp [cellsOfBytes, List.map_set]
  refine ⟨by rw [Heap.get_set, if_neg (fun e => hbg e.symm)]; exact h.hg, ?_, h.o2.set _ (own_ne2 h.o1 h.o2 (by decide) b hb), h.keep.set _ (h.o1.lt b hb) (by omega), h.gn, h.gl, h.n1, h.n2⟩
  rw [e1, List.length_set]
  rcases h.o1 with ⟨e, _, _⟩ | ⟨b', sl, e, q1, q2, q3, q4⟩
  · rw [e] at hb; cases hb
  · rw [e] at hb
    simp [slBlock] at hb
    subst hb
    exact .inr ⟨b', sl, e, q1, by simp [q2], q3, by rw [Heap.get_set, if_pos rfl]⟩
theorem G2.setH {b : Nat} {x : Bool} (h : G2 H0 H g v1 v2 B Has) (hb : slBlock v2 = some b) : G2 H0 (H.set b (.cells ((Has.map AV.bool).set i (.bool x)) 4 true false)) g v1 v2 B (Has.set i x) := by
  have hbg := own_ne h.o2 h.hg (by decide) b hb
  have hbn := h.n2 b hb
  have e1 : (Has.set i x).map AV.bool = (Has.map AV.bool).set i (.bool x) := by simp [List.map_set]
  refine ⟨by rw [Heap.get_set, if_neg (fun e => hbg e.symm)]; exact h.hg, h.o1.set _ (own_ne2 h.o2 h.o1 (by decide) b hb), ?_, h.keep.set _ (h.o2.lt b hb) (by omega), h.gn, h.gl, h.n1, h.n2⟩
  rw [e1, List.length_set]
  rcases h.o2 with ⟨e, _, _⟩ | ⟨b', sl, e, q1, q2, q3, q4⟩
  · rw [e] at hb; cases hb
  · rw [e] at hb
    simp [slBlock] at hb
    subst hb
    exact .inr ⟨b', sl, e, q1, by simp [q2], q3, by rw [Heap.get_set, if_pos rfl]⟩
theorem G2.ref (h : G2 H0 H g v1 v2 B Has) : RefR H (.agg [v1, v2]) B Has := by
  obtain ⟨a, x, rfl, _⟩ := h.o1.form
  obtain ⟨a', x', rfl, _⟩ := h.o2.form
  exact ⟨_, _, _, _, _, _, rfl, h.o1.sl, h.o2.sl, h.o1.live⟩
end

/-- The blocks of a value's slices. -/
def blkOf : AV → Nat → Prop
  | .agg l, b => ∃ s ∈ l, slBlock s = some b
  | _, _ => False
theorem G2.blk {H0 H : Heap} {g : Nat} {v1 v2 : AV} {B : List UInt8} {Has : List Bool} (h : G2 H0 H g v1 v2 B Has) : ∀ b, blkOf (.agg [v1, v2]) b → H0.next ≤ b ∧ b < H.next := by
  rintro b ⟨s, hs, hb⟩
  simp at hs
  rcases hs with rfl | rfl
  · exact ⟨h.n1 b hb, h.o1.lt b hb⟩
  · exact ⟨h.n2 b hb, h.o2.lt b hb⟩

/-- What the reference leaves of a file that is cut. -/
def cutB (B : List UInt8) (n : Nat) : List UInt8 := (List.range n).map fun i => B.getD i 0
theorem cutB_len (B : List UInt8) (n : Nat) : (cutB B n).length = n := by simp [cutB]
theorem cutB_succ (B : List UInt8) (n : Nat) : cutB B (n + 1) = cutB B n ++ [B.getD n 0] := by simp [cutB, List.range_succ]
def cutH (Has : List Bool) (n : Nat) : List Bool := Has.take ((n + 63) / 64)

set_option maxHeartbeats 1000000 in
theorem rtrunc_ok (B : List UInt8) (Has : List Bool) (hB : B.length ≤ 65536) (hH : Has.length ≤ 1024) (n : Int) (hn : -9223372036854775808 ≤ n ∧ n ≤ 9223372036854775807) (v : AV) (H : Heap) (h : RefR H v B Has) :
    Cl Try.prog pr06 58 [v, .int .i64 n] H fun w H' => Keep H H' ∧ ∃ u, (∀ b, blkOf u b → blkOf v b ∨ (H.next ≤ b ∧ b < H'.next)) ∧ RefR H' u (if n < 0 ∨ n > 65536 then B else cutB B n.toNat) (if n < 0 ∨ n > 65536 then Has else cutH Has n.toNat) ∧
      w = .tuple [u, .int .i64 (if n < 0 ∨ n > 65536 then 0 else (Has.count true : Int) - (cutH Has n.toNat).count true), .int .i64 (if n < 0 then 22 else if n > 65536 then 27 else 0)] := by
  have hv := h
  obtain ⟨a, c, x, a', c', x', rfl, h1, h2, hLv⟩ := h
  refine Cl.enter Try.func58 rfl rfl Try.ntmps58 (by simp) ?_
  by_cases hc : n < 0 ∨ n > 65536
  · simp only [if_pos hc]
    by_cases c1 : n < 0
    · simp only [if_pos c1]
      refine walk none0 ?_
      have k : ∀ o1 o2 o3, Keep H (((H.push o1).push o2).set (H.next + 1) o3) := fun o1 o2 o3 => ((Upd.rfl.push _).push _).set _ (by simp) (by omega)
      exact ⟨k _ _ _, _, fun b hb => .inl hb, hv.kept (k _ _ _), rfl⟩
    · simp only [if_neg c1, if_pos (show n > 65536 by omega)]
      refine walk none0 ?_
      have k : ∀ o1 o2 o3, Keep H (((H.push o1).push o2).set (H.next + 1) o3) := fun o1 o2 o3 => ((Upd.rfl.push _).push _).set _ (by simp) (by omega)
      exact ⟨k _ _ _, _, fun b hb => .inl hb, hv.kept (k _ _ _), rfl⟩
  · simp only [if_neg hc, if_neg (show ¬ n < 0 by omega), if_neg (show ¬ n > 65536 by omega)]
    refine walk none0 ?_
    generalize hHb : (H.push (AObj.cells [AV.slice a B.length c x, AV.slice a' Has.length c' x'] 56 true false)).push (AObj.cells [AV.slice none 0 0 none, AV.slice none 0 0 none] 56 true false) = Hb
    have kb : Keep H Hb := by subst hHb; exact (Upd.rfl.push _).push _
    have nb : Hb.next = H.next + 2 := by subst hHb; simp
    have gb2 : Hb.get H.next = some (.cells [.slice a B.length c x, .slice a' Has.length c' x'] 56 true false) := by subst hHb; simp
    have gb4 : Hb.get (H.next + 1) = some (.cells [.slice none 0 0 none, .slice none 0 0 none] 56 true false) := by subst hHb; simp
    have h1b := h1.kept kb
    have h2b := h2.kept kb
    have hvb := hv.kept kb
    have hG0 : G2 Hb ((Hb.push (AObj.cells [AV.slice none 0 0 none, AV.slice none 0 0 none] 56 true false)).set (H.next + 1 + 1) (AObj.cells [AV.slice none 0 0 none, AV.slice none 0 0 none] 56 true false)) (H.next + 2) (.slice none 0 0 none) (.slice none 0 0 none) [] [] :=
      ⟨by simp, OwnSl.nil, OwnSl.nil, (Upd.rfl.push _).set _ (by simp; omega) (by omega), by omega, by simp; omega, by simp [slBlock], by simp [slBlock]⟩
    obtain ⟨N, hN⟩ := Int.eq_ofNat_of_zero_le (show 0 ≤ n by omega)
    refine Wq.loop (fun m e H' => ∃ (i : Nat) (v1 : AV), i ≤ N ∧ e 1 = .int .i64 n ∧ e 2 = .ptr (some (H.next, 0)) ∧ e 4 = .ptr (some (H.next + 1, 0)) ∧ e 7 = .ptr (some (H.next + 2, 0)) ∧ e 8 = .int .i64 i ∧ m = N - i ∧ G2 Hb H' (H.next + 2) v1 (.slice none 0 0 none) (cutB B i) []) N ?_ ?_
    · exact ⟨0, .slice none 0 0 none, by omega, by simp, by simp, by simp, by simp, by simp, by omega, hG0⟩
    · rintro m e H' ⟨i, v1, hi, g1, g2, g4, g7, g8, rfl, hG⟩
      have hf2 := (hG.keep.get (show H.next < Hb.next by omega)).trans gb2
      have hgg := hG.hg
      have hgl := hG.gl
      by_cases hlt : i < N
      · have e2 := cutB_succ B i
        have hcl := cutB_len B i
        have hl := hG.o1.len
        obtain ⟨wa, wx, rfl, _⟩ := hG.o1.form
        generalize hy : B.getD i 0 = y at e2
        by_cases hlb : i < B.length
        · have hS := h1b.kept hG.keep
          obtain ⟨b, o, cs, t, w0, mm, rfl, hb1, hb2, hb3, hb4⟩ := hS.at (by omega)
          have hx := sub_get hb4 (i := i) (by omega)
          have hgi : B[i]? = some (B[i]'(by omega)) := List.getElem?_eq_getElem (by omega)
          rw [cellsOfBytes_get, hgi, Option.map_some] at hx
          have hgd : B[i] = y := by rw [← hy]; simp [List.getD, hgi]
          rw [hgd] at hx
          refine walk (both g1 (both g2 (both g4 (both g7 (both g8 (both hf2 (both hgg (both hb2 hx)))))))) ?_
          refine Oq.append (own := (hG.push _).o1) (new := cellsOfBytes [y]) (m := 1) (by simp (disch := omega) [g1, g2, g4, g7, g8, hf2, hgg, cellsOfBytes, cellsOfBytes_nil, -getElem?_pos, wrapI64, tdivN, tmodN, ipos, ineg, dpos, dneg, slc_l, slc_h, slc_lh, slc_hm, slc_lhm, slc_0, slcR_some, slcR_none, cutS_ok, cutA_ok, byteAt_ok]; first | done | (repeat' (first | rfl | apply And.intro))) ⟨_, rfl, by simp; first | done | (repeat' (first | rfl | apply And.intro))⟩ rfl (by kernel_rfl) (by kernel_rfl) (by refine ⟨by simp, ?_⟩; simp (disch := omega) [srcCells, cellsAt, g1, g2, g4, g7, g8, hf2, hgg, cellsOfBytes, cellsOfBytes_nil, -getElem?_pos, wrapI64, tdivN, tmodN, ipos, ineg, dpos, dneg, slc_l, slc_h, slc_lh, slc_hm, slc_lhm, slc_0, slcR_some, slcR_none, cutS_ok, cutA_ok, byteAt_ok]; first | done | rfl) (by simp [cellsOfBytes]) (cellsOfBytes_one _) (by omega) (by omega) fun w1 H3 o1 b1 s1 => ?_
          obtain ⟨wa1, wx1, rfl, _⟩ := o1.form
          obtain ⟨hg3, hG3⟩ := (hG.push _).appB (C := [y]) o1 b1 s1
          refine walk (both g1 (both g2 (both g4 (both g7 (both g8 hg3))))) ?_
          refine Roundq.normal (N - (i + 1)) (by omega) ⟨i + 1, _, by omega, by simp [g1], by simp [g2], by simp [g4], by simp [g7], by simp, rfl, e2 ▸ hG3⟩
        · have hgd : y = 0 := by rw [← hy]; simp [List.getD, List.getElem?_eq_none (by omega : B.length ≤ i)]
          subst hgd
          refine walk (both g1 (both g2 (both g4 (both g7 (both g8 (both hf2 hgg)))))) ?_
          refine Oq.append (own := (hG.push _).o1) (new := cellsOfBytes [(0 : UInt8)]) (m := 1) (by simp (disch := omega) [g1, g2, g4, g7, g8, hf2, hgg, cellsOfBytes, cellsOfBytes_nil, -getElem?_pos, wrapI64, tdivN, tmodN, ipos, ineg, dpos, dneg, slc_l, slc_h, slc_lh, slc_hm, slc_lhm, slc_0, slcR_some, slcR_none, cutS_ok, cutA_ok, byteAt_ok]; first | done | (repeat' (first | rfl | apply And.intro))) ⟨_, rfl, by simp; first | done | (repeat' (first | rfl | apply And.intro))⟩ rfl (by kernel_rfl) (by kernel_rfl) (by refine ⟨by simp, ?_⟩; simp (disch := omega) [srcCells, cellsAt, g1, g2, g4, g7, g8, hf2, hgg, cellsOfBytes, cellsOfBytes_nil, -getElem?_pos, wrapI64, tdivN, tmodN, ipos, ineg, dpos, dneg, slc_l, slc_h, slc_lh, slc_hm, slc_lhm, slc_0, slcR_some, slcR_none, cutS_ok, cutA_ok, byteAt_ok]; first | done | rfl) (by simp [cellsOfBytes]) (cellsOfBytes_one _) (by omega) (by omega) fun w1 H3 o1 b1 s1 => ?_
          obtain ⟨wa1, wx1, rfl, _⟩ := o1.form
          obtain ⟨hg3, hG3⟩ := (hG.push _).appB (C := [(0 : UInt8)]) o1 b1 s1
          refine walk (both g1 (both g2 (both g4 (both g7 (both g8 hg3))))) ?_
          refine Roundq.normal (N - (i + 1)) (by omega) ⟨i + 1, _, by omega, by simp [g1], by simp [g2], by simp [g4], by simp [g7], by simp, rfl, e2 ▸ hG3⟩
      · have : i = N := by omega
        subst this
        refine walk (both g1 (both g2 (both g4 (both g7 g8)))) ?_
        have hcl := cutB_len B i
        generalize hcbe : cutB B i = CB at *
        have hgg0 := hgg
        clear hgg
        refine Wq.loop (fun m e H' => ∃ (k : Nat) (v2 : AV), k ≤ Has.length ∧ (k : Int) * 64 < i + 64 ∧ e 1 = .int .i64 n ∧ e 2 = .ptr (some (H.next, 0)) ∧ e 4 = .ptr (some (H.next + 1, 0)) ∧ e 7 = .ptr (some (H.next + 2, 0)) ∧ e 10 = .int .i64 k ∧ m = Has.length - k ∧ G2 Hb H' (H.next + 2) v1 v2 CB (Has.take k)) Has.length ?_ ?_
        · exact ⟨0, .slice none 0 0 none, by omega, by omega, by simp [g1], by simp [g2], by simp [g4], by simp [g7], by simp, by omega, hG⟩
        · clear g1 g2 g4 g7 g8 hf2 hgg0 hgl hG
          rintro m e H' ⟨k, v2, hk, hk2, g1, g2, g4, g7, g10, rfl, hG⟩
          have hf2 := (hG.keep.get (show H.next < Hb.next by omega)).trans gb2
          have hgg := hG.hg
          have hgl := hG.gl
          have htk : (Has.take k).length = k := by simp; omega
          by_cases hlt : k < Has.length ∧ (k : Int) * 64 < i
          · have hS := h2b.kept hG.keep
            obtain ⟨b, o, cs, t, w0, mm, rfl, hb1, hb2, hb3, hb4⟩ := hS.at (by omega)
            have hx := sub_get hb4 (i := k) (by omega)
            have hgi : Has[k]? = some (Has[k]'(by omega)) := List.getElem?_eq_getElem (by omega)
            rw [List.getElem?_map, hgi, Option.map_some] at hx
            have e2 : Has.take (k + 1) = Has.take k ++ [Has[k]] := by rw [List.take_add_one, hgi]; rfl
            generalize Has[k] = y at *
            obtain ⟨wa, wx, rfl, _⟩ := hG.o2.form
            refine walk (both g1 (both g2 (both g4 (both g7 (both g10 (both hf2 (both hgg (both hb2 hx)))))))) ?_
            refine Wq.regionD [0, 1, 2, 3, 4, 5, 6, 7, 8, 9, 10] (by kernel_rfl) ?_
            refine walk (both g1 (both g2 (both g4 (both g7 (both g10 (both hf2 (both hgg (both hb2 hx)))))))) ?_
            refine Oq.append (own := (hG.push _).o2) (new := [y].map AV.bool) (m := 1) (by simp (disch := omega) [g1, g2, g4, g7, g10, hf2, hgg, -getElem?_pos, wrapI64, tdivN, tmodN, ipos, ineg, dpos, dneg, slc_l, slc_h, slc_lh, slc_hm, slc_lhm, slc_0, slcR_some, slcR_none, cutS_ok, cutA_ok, byteAt_ok]; first | done | (repeat' (first | rfl | apply And.intro))) ⟨_, rfl, by simp; first | done | (repeat' (first | rfl | apply And.intro))⟩ rfl (by kernel_rfl) (by kernel_rfl) (by refine ⟨by simp, ?_⟩; simp (disch := omega) [srcCells, cellsAt, g1, g2, g4, g7, g10, hf2, hgg, -getElem?_pos, wrapI64, tdivN, tmodN, ipos, ineg, dpos, dneg, slc_l, slc_h, slc_lh, slc_hm, slc_lhm, slc_0, slcR_some, slcR_none, cutS_ok, cutA_ok, byteAt_ok]; first | done | rfl) (by simp [g1, g2, g4, g7, g10, hf2, hgg]) (by simp [g1, g2, g4, g7, g10, hf2, hgg]) (by omega) (by omega) fun w1 H3 o1 b1 s1 => ?_
            obtain ⟨wa1, wx1, rfl, _⟩ := o1.form
            obtain ⟨hg3, hG3⟩ := (hG.push _).appH (Cs := [y]) o1 b1 s1
            refine walk (both g1 (both g2 (both g4 (both g7 (both g10 hg3))))) ?_
            rw [← e2] at hG3
            simp only [htk] at hG3
            refine Roundq.normal (Has.length - (k + 1)) (by omega) ⟨k + 1, _, by omega, by omega, by simp [g1], by simp [g2], by simp [g4], by simp [g7], by simp, rfl, hG3⟩
          · have e3 : Has.take k = cutH Has n.toNat := by
              unfold cutH
              by_cases hq : k = Has.length
              · rw [hq, List.take_of_length_le (Nat.le_refl _), List.take_of_length_le (by omega)]
              · congr 1; omega
            rw [e3] at hG
            by_cases hq : (k : Int) * 64 < i
            · refine walk (both g1 (both g2 (both g4 (both g7 (both g10 (both hf2 hgg)))))) ?_
              have hcut : (cutH Has n.toNat).length ≤ 1024 := by unfold cutH; simp; omega
              have hc1 : Has.count true ≤ 1024 := Nat.le_trans List.count_le_length hH
              have hc2 : (cutH Has n.toNat).count true ≤ 1024 := Nat.le_trans List.count_le_length hcut
              generalize cutH Has n.toNat = CH at *
              refine Wq.regionM [(1, 0), (2, 0), (3, 2), (4, 0), (0, 3), (6, 0), (5, 0), (7, 0), (8, 0)] (by kernel_rfl) ?_
              refine mwalk (both g1 (both g2 (both g4 (both g7 (both g10 (both hf2 hgg)))))) ?_
              refine (rblocks_ok B Has (by omega) _ H' (hvb.kept hG.keep)).mono fun w H2 hn2 ⟨e4, hk4⟩ => ?_
              subst e4
              have hgg2 := (hk4.get hgl).trans hgg
              refine mwalk (both g1 (both g2 (both g4 (both g7 (both g10 (both hgg hgg2)))))) ?_
              refine (rblocks_ok CB CH (by omega) _ H2 (hG.ref.kept hk4)).mono fun w H4 hn4 ⟨e5, hk5⟩ => ?_
              subst e5
              have hgg4 := (hk5.get (by omega)).trans hgg2
              have hg4 := ((hk4.then hk5).get (show H.next + 1 < H'.next by have := hG.keep.next; omega)).trans ((hG.keep.get (show H.next + 1 < Hb.next by omega)).trans gb4)
              obtain ⟨wa1, wx1, rfl, _⟩ := hG.o1.form
              obtain ⟨wa2, wx2, rfl, _⟩ := hG.o2.form
              have hlt4 : H.next + 1 < H4.next := by have := hG.keep.next; omega
              refine mwalk (both g1 (both g2 (both g4 (both g7 (both g10 (both hgg (both hgg2 (both hgg4 hg4)))))))) ?_
              refine walk (both g4 hg4) ?_
              have hN2 : n.toNat = i := by omega
              refine ⟨(((kb.then hG.keep).then (hk4.then hk5)).set _ hlt4 (by omega)), _, fun b hb => .inr (by have := hG.blk b hb; have := hk4.next; have := hk5.next; simp; omega), ?_, rfl⟩
              rw [hN2, hcbe]
              have hR := hG.ref.kept (hk4.then hk5)
              obtain ⟨a1, c1, x1, a2, c2, x2, e6, q1, q2, q3⟩ := hR
              simp only [AV.agg.injEq, List.cons.injEq, and_true] at e6
              obtain ⟨e7, e8⟩ := e6
              rw [e7, e8]
              have t1 := own_ne ((hG.o1.kept (hk4.then hk5))) hg4 (by decide)
              have t2 := own_ne ((hG.o2.kept (hk4.then hk5))) hg4 (by decide)
              rw [e7] at t1
              rw [e8] at t2
              exact ⟨_, _, _, _, _, _, rfl, q1.set _ (fun e => t1 _ e rfl), q2.set _ (fun e => t2 _ e rfl), q3.set _ (fun e => t1 _ e rfl)⟩
            · refine walk (both g1 (both g2 (both g4 (both g7 (both g10 (both hf2 hgg)))))) ?_
              have hcut : (cutH Has n.toNat).length ≤ 1024 := by unfold cutH; simp; omega
              have hc1 : Has.count true ≤ 1024 := Nat.le_trans List.count_le_length hH
              have hc2 : (cutH Has n.toNat).count true ≤ 1024 := Nat.le_trans List.count_le_length hcut
              generalize cutH Has n.toNat = CH at *
              refine Wq.regionM [(1, 0), (2, 0), (3, 2), (4, 0), (0, 3), (6, 0), (5, 0), (7, 0), (8, 0)] (by kernel_rfl) ?_
              refine mwalk (both g1 (both g2 (both g4 (both g7 (both g10 (both hf2 hgg)))))) ?_
              refine (rblocks_ok B Has (by omega) _ H' (hvb.kept hG.keep)).mono fun w H2 hn2 ⟨e4, hk4⟩ => ?_
              subst e4
              have hgg2 := (hk4.get hgl).trans hgg
              refine mwalk (both g1 (both g2 (both g4 (both g7 (both g10 (both hgg hgg2)))))) ?_
              refine (rblocks_ok CB CH (by omega) _ H2 (hG.ref.kept hk4)).mono fun w H4 hn4 ⟨e5, hk5⟩ => ?_
              subst e5
              have hgg4 := (hk5.get (by omega)).trans hgg2
              have hg4 := ((hk4.then hk5).get (show H.next + 1 < H'.next by have := hG.keep.next; omega)).trans ((hG.keep.get (show H.next + 1 < Hb.next by omega)).trans gb4)
              obtain ⟨wa1, wx1, rfl, _⟩ := hG.o1.form
              obtain ⟨wa2, wx2, rfl, _⟩ := hG.o2.form
              have hlt4 : H.next + 1 < H4.next := by have := hG.keep.next; omega
              refine mwalk (both g1 (both g2 (both g4 (both g7 (both g10 (both hgg (both hgg2 (both hgg4 hg4)))))))) ?_
              refine walk (both g4 hg4) ?_
              have hN2 : n.toNat = i := by omega
              refine ⟨(((kb.then hG.keep).then (hk4.then hk5)).set _ hlt4 (by omega)), _, fun b hb => .inr (by have := hG.blk b hb; have := hk4.next; have := hk5.next; simp; omega), ?_, rfl⟩
              rw [hN2, hcbe]
              have hR := hG.ref.kept (hk4.then hk5)
              obtain ⟨a1, c1, x1, a2, c2, x2, e6, q1, q2, q3⟩ := hR
              simp only [AV.agg.injEq, List.cons.injEq, and_true] at e6
              obtain ⟨e7, e8⟩ := e6
              rw [e7, e8]
              have t1 := own_ne ((hG.o1.kept (hk4.then hk5))) hg4 (by decide)
              have t2 := own_ne ((hG.o2.kept (hk4.then hk5))) hg4 (by decide)
              rw [e7] at t1
              rw [e8] at t2
              exact ⟨_, _, _, _, _, _, rfl, q1.set _ (fun e => t1 _ e rfl), q2.set _ (fun e => t2 _ e rfl), q3.set _ (fun e => t1 _ e rfl)⟩
end Go.Abs

/- Chapter 06: the document's answer, walked: writes. -/
namespace Go.Abs
open Go.Proofs
set_option maxRecDepth 100000
set_option linter.unusedVariables false
set_option linter.unusedSimpArgs false

/-- What the reference leaves of a file that is written. -/
structure RWrote (B : List UInt8) (Has : List Bool) (off : Int) (b : List UInt8) (B' : List UInt8) (Has' : List Bool) : Prop where
  len : (B'.length : Int) = max (B.length : Int) (off + b.length)
  get : ∀ q : Nat, B'.getD q 0 = if off ≤ (q : Int) ∧ (q : Int) < off + b.length then b.getD ((q : Int) - off).toNat 0 else B.getD q 0
  hlen : Has'.length * 64 < B'.length + 64
  has : ∀ k, hasF Has' k = (hasF Has k || (decide (off / 64 ≤ k) && decide (64 * k < off + b.length)))

theorem getD_zeros (B : List UInt8) (j q : Nat) : (B ++ zeroB j).getD q 0 = B.getD q 0 := by
  by_cases h : q < B.length
  · rw [getD_appL h]
  · rw [getD_appR (by omega)]
    have e1 : (zeroB j).getD (q - B.length) 0 = 0 := by
      simp only [zeroB, List.getD, List.getElem?_replicate]
      split <;> rfl
    rw [e1]
    simp [List.getD, List.getElem?_eq_none (by omega : B.length ≤ q)]
theorem hasF_falses (Has : List Bool) (j : Nat) (k : Int) : hasF (Has ++ List.replicate j false) k = hasF Has k := by
  unfold hasF
  congr 1
  by_cases h : k.toNat < Has.length
  · rw [getD_appL h]
  · rw [getD_appR (by omega)]
    have e1 : (List.replicate j false).getD (k.toNat - Has.length) false = false := by
      simp only [List.getD, List.getElem?_replicate]
      split <;> rfl
    rw [e1]
    simp [List.getD, List.getElem?_eq_none (by omega : Has.length ≤ k.toNat)]
theorem getD_set {α : Type} (l : List α) (i q : Nat) (x d : α) (h : i < l.length) : (l.set i x).getD q d = if q = i then x else l.getD q d := by
  by_cases e : q = i
  · subst e; simp [List.getD, h]
  · simp [List.getD, List.getElem?_set, e, fun h => e (Eq.symm h)]
    rw [if_neg (fun h => e h.symm)]
theorem hasF_set (Has : List Bool) (i : Nat) (h : i < Has.length) (k : Int) : hasF (Has.set i true) k = (hasF Has k || decide (k = i)) := by
  unfold hasF
  rw [getD_set _ _ _ _ _ h]
  by_cases e : k.toNat = i
  · by_cases h0 : 0 ≤ k
    · have : k = i := by omega
      simp [h0, e, this]
    · have : k ≠ i := by omega
      simp [h0, this]
  · have : k ≠ i := by omega
    simp [e, this]

set_option maxHeartbeats 2000000 in
theorem rwrite_ok (B : List UInt8) (Has : List Bool) (hB : B.length ≤ 65536) (hH : Has.length * 64 < B.length + 64) (off room : Int) (hof : -9223372036854775808 ≤ off ∧ off ≤ 9223372036854775807) (b : List UInt8) (hbl : b.length ≤ 300) (bv v : AV) (H : Heap) (h : RefR H v B Has) (hb : Sl H 1 bv b.length (cellsOfBytes b)) :
    Cl Try.prog pr06 57 [v, .int .i64 off, bv, .int .i64 room] H fun w H' => Keep H H' ∧ ∃ u B' Has', (∀ q, blkOf u q → blkOf v q ∨ (H.next ≤ q ∧ q < H'.next)) ∧ RefR H' u B' Has' ∧
      w = .tuple [u, .int .i64 (if off < 0 ∨ off > 65536 ∨ (b.length : Int) > 65536 - off ∨ needN (hasF Has) off b.length > room then 0 else needN (hasF Has) off b.length), .int .i64 (if off < 0 then 22 else if off > 65536 ∨ (b.length : Int) > 65536 - off then 27 else if needN (hasF Has) off b.length > room then 28 else 0)] ∧
      ((off < 0 ∨ off > 65536 ∨ (b.length : Int) > 65536 - off ∨ needN (hasF Has) off b.length > room ∨ b.length = 0) ∧ B' = B ∧ Has' = Has ∨
        ¬ (off < 0 ∨ off > 65536 ∨ (b.length : Int) > 65536 - off ∨ needN (hasF Has) off b.length > room ∨ b.length = 0) ∧ RWrote B Has off b B' Has') := by
  have hv := h
  obtain ⟨a, c, x, a', c', x', rfl, h1, h2, hLv⟩ := h
  obtain ⟨ba, bc, bx, rfl, hcap, hex⟩ := hb.form
  have k3 : ∀ o1 o2 o3, Keep H (((H.push o1).push o2).set (H.next + 1) o3) := fun o1 o2 o3 => ((Upd.rfl.push _).push _).set _ (by simp) (by omega)
  refine Cl.enter Try.func57 rfl rfl Try.ntmps57 (by simp) ?_
  by_cases c1 : off < 0
  · refine walk none0 ?_
    exact ⟨k3 _ _ _, _, B, Has, fun q hq => .inl hq, hv.kept (k3 _ _ _), by rw [if_pos (.inl c1), if_pos c1], .inl ⟨.inl c1, rfl, rfl⟩⟩
  by_cases c2 : off > 65536
  · refine walk none0 ?_
    exact ⟨k3 _ _ _, _, B, Has, fun q hq => .inl hq, hv.kept (k3 _ _ _), by rw [if_pos (.inr (.inl c2)), if_neg c1, if_pos (.inl c2)], .inl ⟨.inr (.inl c2), rfl, rfl⟩⟩
  by_cases c3 : (b.length : Int) > 65536 - off
  · refine walk none0 ?_
    exact ⟨k3 _ _ _, _, B, Has, fun q hq => .inl hq, hv.kept (k3 _ _ _), by rw [if_pos (.inr (.inr (.inl c3))), if_neg c1, if_pos (.inr c3)], .inl ⟨.inr (.inr (.inl c3)), rfl, rfl⟩⟩
  refine walk none0 ?_
  generalize hHb : (H.push (AObj.cells [AV.slice a B.length c x, AV.slice a' Has.length c' x'] 56 true false)).push (AObj.cells [AV.slice none 0 0 none, AV.slice none 0 0 none] 56 true false) = Hb
  have kb : Keep H Hb := by subst hHb; exact (Upd.rfl.push _).push _
  have nb : Hb.next = H.next + 2 := by subst hHb; simp
  have gb2 : Hb.get H.next = some (.cells [.slice a B.length c x, .slice a' Has.length c' x'] 56 true false) := by subst hHb; simp
  have gb4 : Hb.get (H.next + 1) = some (.cells [.slice none 0 0 none, .slice none 0 0 none] 56 true false) := by subst hHb; simp
  refine (rneed_ok B Has off b.length hof (by omega) _ Hb (hv.kept kb)).mono fun w H1 hn1 ⟨e1, k1⟩ => ?_
  subst e1
  have gb2' := (k1.get (by omega)).trans gb2
  have gb4' := (k1.get (by omega)).trans gb4
  have n8 : H.next + 1 < H1.next := by omega
  generalize hneed : needN (hasF Has) off b.length = need at *
  have k4 : ∀ o3, Keep H (H1.set (H.next + 1) o3) := fun o3 => (kb.then k1).set _ n8 (by omega)
  by_cases c4 : need > room
  · refine walk (both gb2' gb4') ?_
    exact ⟨k4 _, _, B, Has, fun q hq => .inl hq, hv.kept (k4 _), by rw [if_pos (.inr (.inr (.inr c4))), if_neg c1, if_neg (by omega), if_pos c4], .inl ⟨.inr (.inr (.inr (.inl c4))), rfl, rfl⟩⟩
  by_cases c5 : b.length = 0
  · obtain rfl : b = [] := List.eq_nil_of_length_eq_zero c5
    have hneed0 : need = 0 := by rw [← hneed]; unfold needN; rw [if_pos (by simp)]
    refine walk (both gb2' gb4') ?_
    exact ⟨k4 _, _, B, Has, fun q hq => .inl hq, hv.kept (k4 _), by rw [if_neg (by simp; simp at c3; omega), if_neg c1, if_neg (by simp; simp at c3; omega), if_neg c4, hneed0], .inl ⟨.inr (.inr (.inr (.inr rfl))), rfl, rfl⟩⟩
  have c5b : b ≠ [] := by rintro rfl; exact c5 rfl
  refine walk (both gb2' (both gb4' c5b)) ?_
  refine (own_ok B Has hB (by omega) _ H1 (hv.kept (kb.then k1))).mono fun w H2 hn2 ⟨v1, v2, e2, f1, f2, _⟩ => ?_
  subst e2
  obtain ⟨wa1, wx1, rfl, _⟩ := f1.own.form
  obtain ⟨wa2, wx2, rfl, _⟩ := f2.own.form
  refine walk none0 ?_
  have hG0 : G2 H1 ((H2.push (AObj.cells [AV.slice none 0 0 none, AV.slice none 0 0 none] 56 true false)).set H2.next (AObj.cells [AV.slice wa1 B.length B.length wx1, AV.slice wa2 Has.length Has.length wx2] 56 true false)) H2.next (.slice wa1 B.length B.length wx1) (.slice wa2 Has.length Has.length wx2) B Has := by
    refine ⟨by simp, (f1.own.push _).set _ (fun e => by have := f1.own.lt _ e; omega), (f2.own.push _).set _ (fun e => by have := f2.own.lt _ e; omega), (f1.keep.push _).set _ (by simp) (fun hh => by have := f1.keep.next; omega), f1.keep.next, by simp, f1.new, f2.new⟩
  have hbb := hb.kept (kb.then k1)
  clear hneed
  generalize hGn : H2.next = G at *
  -- the bytes
  refine Wq.loop (fun m e H' => ∃ (j : Nat) (v1 : AV), e 1 = .int .i64 off ∧ e 2 = .slice ba b.length bc bx ∧ e 8 = .ptr (some (H.next + 1, 0)) ∧ e 11 = .int .i64 need ∧ e 12 = .ptr (some (G, 0)) ∧ (j = 0 ∨ (B.length : Int) + j ≤ off + b.length) ∧ m = 70000 - j ∧ j ≤ 66000 ∧ G2 H1 H' G v1 (.slice wa2 Has.length Has.length wx2) (B ++ zeroB j) Has) 70000 ?_ ?_
  · exact ⟨0, _, by simp, by simp, by simp, by simp, by simp, .inl rfl, by omega, by omega, by simpa [zeroB] using hG0⟩
  · clear hG0
    rintro m e H' ⟨j, v1, g1, g2, g8, g11, g12, hj, rfl, hj2, hG⟩
    have hgg := hG.hg
    have hgl := hG.gl
    have hlB : (B ++ zeroB j).length = B.length + j := by simp [zeroB]
    obtain ⟨ua, ux, rfl, _⟩ := hG.o1.form
    by_cases hlt : (B.length : Int) + j < off + b.length
    · refine walk (both g1 (both g2 (both g8 (both g11 (both g12 hgg))))) ?_
      refine Oq.append (own := (hG.push _).o1) (new := cellsOfBytes [0]) (m := 1) (by simp (disch := omega) [g1, g2, g8, g11, g12, hgg, cellsOfBytes, -getElem?_pos, wrapI64, tdivN, tmodN, ipos, ineg, dpos, dneg, slc_l, slc_h, slc_lh, slc_hm, slc_lhm, slc_0, slcR_some, slcR_none, cutS_ok, cutA_ok, byteAt_ok]; first | done | (repeat' (first | rfl | apply And.intro))) ⟨_, rfl, by simp; first | done | (repeat' (first | rfl | apply And.intro))⟩ rfl (by kernel_rfl) (by kernel_rfl) (by refine ⟨by simp, ?_⟩; simp (disch := omega) [srcCells, cellsAt, g1, g2, g8, g11, g12, hgg, cellsOfBytes, -getElem?_pos, wrapI64, tdivN, tmodN, ipos, ineg, dpos, dneg, slc_l, slc_h, slc_lh, slc_hm, slc_lhm, slc_0, slcR_some, slcR_none, cutS_ok, cutA_ok, byteAt_ok]; first | done | rfl) (by simp [cellsOfBytes]) (cellsOfBytes_one _) (by omega) (by omega) fun w1 H3 o1 b1 s1 => ?_
      obtain ⟨wb1, wy1, rfl, _⟩ := o1.form
      obtain ⟨hg3, hG3⟩ := (hG.push _).appB (C := [0]) o1 b1 s1
      refine walk (both g1 (both g2 (both g8 (both g11 (both g12 hg3))))) ?_
      have e2 : B ++ zeroB (j + 1) = B ++ zeroB j ++ [0] := by simp [zeroB, List.replicate_succ']
      rw [← e2] at hG3
      simp only [hlB] at hG3
      refine Roundq.normal (70000 - (j + 1)) (by omega) ⟨j + 1, _, by simp [g1], by simp [g2], by simp [g8], by simp [g11], by simp [g12], by omega, rfl, by omega, by simpa using hG3⟩
    · have hB1 : ∀ q, (B ++ zeroB j).getD q 0 = B.getD q 0 := getD_zeros B j
      have hB1l : ((B ++ zeroB j).length : Int) = max (B.length : Int) (off + b.length) := by rw [hlB]; omega
      refine walk (both g1 (both g2 (both g8 (both g11 (both g12 hgg))))) ?_
      generalize B ++ zeroB j = B1 at *
      generalize hv1 : AV.slice ua B1.length B1.length ux = v1 at *
      clear hlt hj
      -- the blocks
      refine Wq.loop (fun m e H' => ∃ (j : Nat) (v2 : AV), e 1 = .int .i64 off ∧ e 2 = .slice ba b.length bc bx ∧ e 8 = .ptr (some (H.next + 1, 0)) ∧ e 11 = .int .i64 need ∧ e 12 = .ptr (some (G, 0)) ∧ (j = 0 ∨ ((Has.length : Int) + j) * 64 < off + b.length + 64) ∧ m = 70000 - j ∧ j ≤ 2000 ∧ G2 H1 H' G v1 v2 B1 (Has ++ List.replicate j false)) 70000 ?_ ?_
      · exact ⟨0, _, by simp [g1], by simp [g2], by simp [g8], by simp [g11], by simp [g12], .inl rfl, by omega, by omega, by simpa using hG⟩
      · clear hG g1 g2 g8 g11 g12 hgg hgl
        rintro m e H' ⟨j, v2, g1, g2, g8, g11, g12, hj, rfl, hj2, hG⟩
        have hgg := hG.hg
        have hgl := hG.gl
        have hlH : (Has ++ List.replicate j false).length = Has.length + j := by simp
        obtain ⟨ua2, ux2, rfl, _⟩ := hG.o2.form
        by_cases hlt : ((Has.length : Int) + j) * 64 < off + b.length
        · refine walk (both g1 (both g2 (both g8 (both g11 (both g12 hgg))))) ?_
          refine Oq.append (own := (hG.push _).o2) (new := [false].map AV.bool) (m := 1) (by simp (disch := omega) [g1, g2, g8, g11, g12, hgg, -getElem?_pos, wrapI64, tdivN, tmodN, ipos, ineg, dpos, dneg, slc_l, slc_h, slc_lh, slc_hm, slc_lhm, slc_0, slcR_some, slcR_none, cutS_ok, cutA_ok, byteAt_ok]; first | done | (repeat' (first | rfl | apply And.intro))) ⟨_, rfl, by simp; first | done | (repeat' (first | rfl | apply And.intro))⟩ rfl (by kernel_rfl) (by kernel_rfl) (by refine ⟨by simp, ?_⟩; simp (disch := omega) [srcCells, cellsAt, g1, g2, g8, g11, g12, hgg, -getElem?_pos, wrapI64, tdivN, tmodN, ipos, ineg, dpos, dneg, slc_l, slc_h, slc_lh, slc_hm, slc_lhm, slc_0, slcR_some, slcR_none, cutS_ok, cutA_ok, byteAt_ok]; first | done | rfl) (by simp [g1, g2, g8, g11, g12, hgg]) (by simp [g1, g2, g8, g11, g12, hgg]) (by omega) (by omega) fun w1 H3 o1 b1 s1 => ?_
          obtain ⟨wb1, wy1, rfl, _⟩ := o1.form
          obtain ⟨hg3, hG3⟩ := (hG.push _).appH (Cs := [false]) o1 b1 s1
          refine walk (both g1 (both g2 (both g8 (both g11 (both g12 hg3))))) ?_
          have e2 : Has ++ List.replicate (j + 1) false = Has ++ List.replicate j false ++ [false] := by simp [List.replicate_succ']
          rw [← e2] at hG3
          simp only [hlH] at hG3
          refine Roundq.normal (70000 - (j + 1)) (by omega) ⟨j + 1, _, by simp [g1], by simp [g2], by simp [g8], by simp [g11], by simp [g12], by omega, rfl, by omega, by simpa using hG3⟩
        · have hH1 : ∀ k, hasF (Has ++ List.replicate j false) k = hasF Has k := hasF_falses Has j
          have hH1l : (Has ++ List.replicate j false).length * 64 < B1.length + 64 := by rw [hlH]; omega
          have hH1m : off + b.length ≤ ((Has ++ List.replicate j false).length : Int) * 64 := by rw [hlH]; omega
          refine walk (both g1 (both g2 (both g8 (both g11 (both g12 hgg))))) ?_
          generalize Has ++ List.replicate j false = Has1 at *
          generalize hv2 : AV.slice ua2 Has1.length Has1.length ux2 = v2 at *
          clear hlt hj
          -- byte by byte
          refine Wq.loop (fun m e H' => ∃ (i : Nat) (B2 : List UInt8) (Has2 : List Bool), e 1 = .int .i64 off ∧ e 2 = .slice ba b.length bc bx ∧ e 8 = .ptr (some (H.next + 1, 0)) ∧ e 11 = .int .i64 need ∧ e 12 = .ptr (some (G, 0)) ∧ e 13 = .int .i64 i ∧ i ≤ b.length ∧ m = b.length - i ∧ B2.length = B1.length ∧ Has2.length = Has1.length ∧
            (∀ q : Nat, B2.getD q 0 = if off ≤ (q : Int) ∧ (q : Int) < off + i then b.getD ((q : Int) - off).toNat 0 else B.getD q 0) ∧ (∀ k, hasF Has2 k = (hasF Has k || (decide (off / 64 ≤ k) && decide (64 * k < off + i) && decide (0 < i)))) ∧ G2 H1 H' G v1 v2 B2 Has2) b.length ?_ ?_
          · refine ⟨0, B1, Has1, by simp [g1], by simp [g2], by simp [g8], by simp [g11], by simp [g12], by simp, by omega, by omega, rfl, rfl, ?_, ?_, hG⟩
            · intro q; rw [if_neg (by omega), hB1]
            · intro k; rw [hH1]; simp
          · clear hG g1 g2 g8 g11 g12 hgg hgl
            rintro m e H' ⟨i, B2, Has2, g1, g2, g8, g11, g12, g13, hi, rfl, hl1, hl2, hq, hk, hG⟩
            have hgg := hG.hg
            have hgl := hG.gl
            by_cases hlt : i < b.length
            · obtain ⟨b1, y1, rfl, p1, p2, p3, p4⟩ := hG.at1 (by omega)
              obtain ⟨b2, y2, rfl, r1, r2, r3, r4⟩ := hG.at2 (by omega)
              have hne12 : b1 ≠ b2 := fun e => own_ne2 hG.o1 hG.o2 (by decide) b1 rfl (by rw [e]; rfl)
              obtain ⟨bb, ob, cs, t, w0, mm, rfl, hb1, hb2, hb3, hb4⟩ := ((hbb.kept hG.keep)).at (by omega)
              have hx := sub_get hb4 (i := i) (by omega)
              have hgi : b[i]? = some (b[i]'(by omega)) := List.getElem?_eq_getElem (by omega)
              have hgd : b.getD i 0 = b[i] := by simp [List.getD, hgi]
              rw [cellsOfBytes_get, hgi, Option.map_some] at hx
              generalize b[i] = y at *
              have hd : 0 ≤ (off + i) / 64 := by omega
              refine walk (both g1 (both g2 (both g8 (both g11 (both g12 g13))))) ?_
              refine Wq.regionM [(0, 0), (1, 0), (2, 0), (3, 0), (4, 0), (11, 0), (12, 0), (13, 0), (14, 0), (15, 0), (16, 0), (5, 0), (6, 2), (7, 0), (8, 0), (9, 0), (10, 0), (17, 0), (18, 0)] (by kernel_rfl) ?_
              refine mwalk (both g1 (both g2 (both g8 (both g11 (both g12 (both g13 (both hgg (both p1 (both r1 (both hb2 hx)))))))))) ?_
              refine walk g13 ?_
              have hG2 := (hG.setB (b := b1) (i := (off + i).toNat) (x := y) rfl).setH (b := b2) (i := ((off + i) / 64).toNat) (x := true) rfl
              refine Roundq.normal (b.length - (i + 1)) (by omega) ⟨i + 1, _, _, by simp [g1], by simp [g2], by simp [g8], by simp [g11], by simp [g12], by simp, by omega, rfl, by simp [hl1], by simp [hl2], ?_, ?_, hG2⟩
              · intro q
                rw [getD_set _ _ _ _ _ (by omega), hq q]
                by_cases e : q = (off + i).toNat
                · rw [if_pos e, if_pos (by omega), ← hgd]
                  congr 1
                  omega
                · rw [if_neg e]
                  by_cases e2 : off ≤ (q : Int) ∧ (q : Int) < off + i
                  · rw [if_pos e2, if_pos (by omega)]
                  · rw [if_neg e2, if_neg (by omega)]
              · intro k
                rw [hasF_set _ _ (by omega), hk k]
                rw [Bool.eq_iff_iff]
                simp
                constructor
                · rintro ((h | h) | h)
                  · exact .inl h
                  · right; omega
                  · right; omega
                · rintro (h | h)
                  · exact .inl (.inl h)
                  · by_cases e : k = ((off + i) / 64).toNat
                    · right; omega
                    · left; right; omega
            · have : i = b.length := by omega
              subst this
              have hg8 := (hG.keep.get n8).trans gb4'
              have hgl8 : H.next + 1 < H'.next := by have := hG.keep.next; omega
              obtain ⟨za1, zx1, ez1, _⟩ := hG.o1.form
              obtain ⟨za2, zx2, ez2, _⟩ := hG.o2.form
              rw [ez1, ez2] at hG hgg
              refine walk (both g1 (both g2 (both g8 (both g11 (both g12 (both g13 (both hgg hg8))))))) ?_
              refine ⟨((kb.then k1).then hG.keep).set _ hgl8 (by omega), _, B2, Has2, fun q hq => .inr (by have := hG.blk q hq; simp; omega), ?_, by rw [if_neg (by omega), if_neg c1, if_neg (by omega), if_neg c4], .inr ⟨by omega, by omega, hq, by omega, fun k => ?_⟩⟩
              · have t1 := own_ne hG.o1 hg8 (by decide)
                have t2 := own_ne hG.o2 hg8 (by decide)
                exact ⟨_, _, _, _, _, _, rfl, hG.o1.sl.set _ (fun e => t1 _ e rfl), hG.o2.sl.set _ (fun e => t2 _ e rfl), hG.o1.live.set _ (fun e => t1 _ e rfl)⟩
              · rw [hk k]
                simp [show 0 < b.length from by omega]
end Go.Abs

/- Chapter 06: the program's file and the document's are one: the plain part. -/
namespace Go.Abs
set_option linter.unusedVariables false
set_option linter.unusedSimpArgs false

/-- As many keys as truths. -/
theorem len_count {α : Type} : ∀ (n : Nat) (L : List Bool) (l : List (Int × α)), L.length = n → ionce l → (∀ k, (iget k l).isSome = hasF L k) → l.length = L.count true
  | 0, L, l, hL, ho, h => by
    obtain rfl := List.eq_nil_of_length_eq_zero hL
    cases l with
    | nil => rfl
    | cons x l =>
      have := h x.1
      simp [iget, hasF] at this
  | n + 1, L, l, hL, ho, h => by
    obtain ⟨L0, x, rfl⟩ : ∃ L0 x, L = L0 ++ [x] := by
      rcases List.eq_nil_or_concat L with rfl | ⟨L0, x, rfl⟩
      · simp at hL
      · exact ⟨L0, x, by simp⟩
    have hl0 : L0.length = n := by simp at hL; exact hL
    have hf : ∀ k, hasF (L0 ++ [x]) k = if k = n then x else hasF L0 k := by
      intro k
      unfold hasF
      by_cases e : k = n
      · subst e
        rw [if_pos rfl, getD_appR (by simp; omega)]
        simp [hl0]
      · rw [if_neg e]
        by_cases h0 : 0 ≤ k
        · by_cases h1 : k.toNat < L0.length
          · rw [getD_appL h1]
          · rw [getD_appR (by omega)]
            congr 1
            have : k.toNat - L0.length ≠ 0 := by omega
            simp [List.getD, List.getElem?_eq_none (by simp; omega : [x].length ≤ k.toNat - L0.length), List.getElem?_eq_none (by omega : L0.length ≤ k.toNat)]
        · simp [h0]
    cases x with
    | false =>
      have := len_count n L0 l hl0 ho fun k => by
        rw [h k, hf k]
        by_cases e : k = n
        · rw [if_pos e, e]
          unfold hasF
          simp [List.getD, List.getElem?_eq_none (by omega : L0.length ≤ n)]
        · rw [if_neg e]
      rw [this]; simp
    | true =>
      have h1 : (iget (n : Int) l).isSome = true := by rw [h, hf, if_pos rfl]
      have := len_count n L0 (idel n l) hl0 (ionce_idel ho) fun k => by
        rw [iget_idel ho]
        by_cases e : (n : Int) = k
        · rw [if_pos e, ← e]
          unfold hasF
          simp [List.getD, List.getElem?_eq_none (by omega : L0.length ≤ n)]
        · rw [if_neg e, h k, hf k, if_neg (fun h => e h.symm)]
      rw [idel_len, if_pos h1] at this
      have h0 : 0 < l.length := by
        cases l with
        | nil => simp [iget] at h1
        | cons _ _ => simp
      simp [List.count_append]
      omega

structure SimA (l : List (Int × Nat)) (bl : Nat → List UInt8) (size : Int) (B : List UInt8) (Has : List Bool) : Prop where
  size : size = B.length
  bmax : B.length ≤ 65536
  hlen : Has.length * 64 < B.length + 64
  dom : ∀ k, (iget k l).isSome = hasF Has k
  cel : ∀ q : Nat, cell l bl q = B.getD q 0
theorem hasF_lt {Has : List Bool} {k : Int} (h : hasF Has k = true) : 0 ≤ k ∧ k < Has.length := by
  unfold hasF at h
  simp at h
  refine ⟨h.1, ?_⟩
  have h2 := h.2
  by_cases c : k.toNat < Has.length
  · omega
  · simp [List.getD, List.getElem?_eq_none (by omega : Has.length ≤ k.toNat)] at h2

section
variable {l l' : List (Int × Nat)} {bl bl' : Nat → List UInt8} {size : Int} {B B' : List UInt8} {Has Has' : List Bool}
theorem SimA.keys (h : SimA l bl size B Has) : ∀ q, (iget q l).isSome = true → 0 ≤ q ∧ 64 * q < size := by
  intro q hq
  rw [h.dom q] at hq
  have := hasF_lt hq
  have := h.hlen
  have := h.size
  omega
theorem SimA.neg (h : SimA l bl size B Has) (j : Int) (hj : j < 0) : cell l bl j = 0 := by
  unfold cell
  cases hg : iget (j / 64) l with
  | none => rfl
  | some b =>
    have := h.keys (j / 64) (by rw [hg]; rfl)
    omega
theorem SimA.zero (h : SimA l bl size B Has) : ∀ j, size ≤ j → cell l bl j = 0 := by
  intro j hj
  have hs := h.size
  have := h.cel j.toNat
  rw [show ((j.toNat : Nat) : Int) = j from by omega] at this
  rw [this]
  simp [List.getD, List.getElem?_eq_none (by omega : B.length ≤ j.toNat)]
theorem SimA.need (h : SimA l bl size B Has) (off n : Int) : needN (fun k => (iget k l).isSome) off n = needN (hasF Has) off n := by
  congr 1
  funext k
  exact h.dom k
theorem SimA.nil : SimA [] bl 0 [] [] := ⟨rfl, by simp, by simp, fun k => by simp [iget, hasF], fun q => by simp [cell, iget]⟩
theorem SimA.wrote {H H' : Heap} {p r : Nat} {off : Int} {b : List UInt8} {C : Nat} (h : SimA l bl size B Has) (w : Wrote H H' p r l l' bl bl' (if 0 < b.length then max size (off + b.length) else size) off b (off + b.length) C) (r : RWrote B Has off b B' Has')
    (h0 : 0 < b.length) (ho : 0 ≤ off) (hm : off + b.length ≤ 65536) (hC : C = cntOf off b.length) : SimA l' bl' (if 0 < b.length then max size (off + b.length) else size) B' Has' := by
  have hs := h.size
  have hb := h.bmax
  have hl := r.len
  rw [if_pos h0]
  refine ⟨by omega, by omega, r.hlen, fun k => ?_, fun q => ?_⟩
  · rw [w.som k, h.dom k, r.has k]
    congr 1
    rw [Bool.eq_iff_iff]
    simp
    subst hC
    unfold cntOf
    intro _
    omega
  · rw [w.cel q, r.get q]
    by_cases c : off ≤ (q : Int) ∧ (q : Int) < off + b.length
    · rw [if_pos c, if_pos c]
    · rw [if_neg c, if_neg c]; exact h.cel q
theorem SimA.cut {n : Int} (h : SimA l bl size B Has) (hn : 0 ≤ n ∧ n ≤ 65536) (hc : ∀ j, cell l' bl' j = if j < n then cell l bl j else 0) (hs : ∀ q, (iget q l').isSome = ((iget q l).isSome && decide (64 * q < n))) : SimA l' bl' n (cutB B n.toNat) (cutH Has n.toNat) := by
  refine ⟨by rw [cutB_len]; omega, by rw [cutB_len]; omega, ?_, fun k => ?_, fun q => ?_⟩
  · rw [cutB_len]; unfold cutH; simp; omega
  · rw [hs k, h.dom k]
    unfold hasF cutH
    by_cases h0 : 0 ≤ k
    · simp only [List.getD, List.getElem?_take]
      by_cases c : 64 * k < n
      · rw [if_pos (by omega)]; simp [c]
      · rw [if_neg (by omega)]; simp [c]
    · simp [h0]
  · rw [hc q]
    have e : (cutB B n.toNat).getD q 0 = if (q : Int) < n then B.getD q 0 else 0 := by
      unfold cutB
      by_cases c : (q : Int) < n
      · rw [if_pos c]; simp [List.getD, List.getElem?_range (by omega : q < n.toNat)]
      · rw [if_neg c]; simp [List.getD, List.getElem?_eq_none (by simp; omega : (List.range n.toNat).length ≤ q)]
    rw [e, h.cel q]
end
end Go.Abs

/- Chapter 06: an act done to both files. -/
namespace Go.Abs
open Go.Proofs
set_option maxRecDepth 100000
set_option linter.unusedVariables false
set_option linter.unusedSimpArgs false

theorem spans_zero_len {off : Int} : (spans off ((0 : Nat) : Int)).length = 0 := by rw [spans_nil (by omega)]; rfl
theorem trunc_all {p r : Nat} {size : Int} {l : List (Int × Nat)} {bl : Nat → List UInt8} {B : List UInt8} {Has : List Bool} (n : Int) (hn : i64 n) (H : Heap) (h : FileR H p r l bl size) (hs : SimA l bl size B Has) :
    Cl Try.prog pr06 56 [.ptr (some (p, 0)), .int .i64 n] H fun w H' => w = .tuple [.int .i64 (if n < 0 ∨ n > 65536 then 0 else (Has.count true : Int) - (cutH Has n.toNat).count true), .int .i64 (if n < 0 then 22 else if n > 65536 then 27 else 0)] ∧
      ∃ l' bl' size', FileR H' p r l' bl' size' ∧ SimA l' bl' size' (if n < 0 ∨ n > 65536 then B else cutB B n.toNat) (if n < 0 ∨ n > 65536 then Has else cutH Has n.toNat) ∧ Upd (fpF p r l) H H' ∧ ∀ b, fpF p r l' b → fpF p r l b := by
  have h1 := hs.size
  have h2 := hs.bmax
  by_cases hc : n < 0 ∨ n > 65536
  · simp only [if_pos hc]
    refine (trunc_no n H h hc).mono fun w H' hn' ⟨e1, e2⟩ => ?_
    subst e2
    refine ⟨?_, l, bl, size, h, hs, Upd.rfl, fun _ h => h⟩
    rw [e1]
    by_cases c : n < 0
    · simp only [if_pos c]
    · simp only [if_neg c, if_pos (show n > 65536 by omega)]
  · simp only [if_neg hc, if_neg (show ¬ n < 0 by omega), if_neg (show ¬ n > 65536 by omega)]
    refine (trunc_yes n H h (by omega) (by omega) hs.zero (fun q hq => (hs.keys q hq).2)).mono fun w H' hn' ⟨gone, l', bl', e1, h3, h4, h5, h6, h7, h8⟩ => ?_
    have hs' := hs.cut (by omega) h4 h5
    have c1 := len_count _ Has l rfl h.once hs.dom
    have c2 := len_count _ _ l' rfl h3.once hs'.dom
    refine ⟨?_, l', bl', n, h3, hs', h7, h8⟩
    rw [e1]
    congr 4
    omega

theorem write_all {p r : Nat} {size : Int} {l : List (Int × Nat)} {bl : Nat → List UInt8} {B : List UInt8} {Has : List Bool} (off room : Int) (ho : i64 off) (bv : AV) (b : List UInt8) (hbl : b.length ≤ 300) (H : Heap) (h : FileR H p r l bl size) (hs : SimA l bl size B Has) (hb : Sl H 1 bv b.length (cellsOfBytes b)) (hd : ∀ q, slBlock bv = some q → ¬ fpF p r l q) :
    Cl Try.prog pr06 55 [.ptr (some (p, 0)), .int .i64 off, bv, .int .i64 room] H fun w H' =>
      w = .tuple [.int .i64 (if off < 0 ∨ off > 65536 ∨ (b.length : Int) > 65536 - off ∨ needN (hasF Has) off b.length > room then 0 else needN (hasF Has) off b.length), .int .i64 (if off < 0 then 22 else if off > 65536 ∨ (b.length : Int) > 65536 - off then 27 else if needN (hasF Has) off b.length > room then 28 else 0)] ∧
      ∃ l' bl' size', FileR H' p r l' bl' size' ∧ Upd (fpF p r l) H H' ∧ (∀ q, fpF p r l' q → fpF p r l q ∨ H.next ≤ q) ∧
        (l'.length : Int) = l.length + (if off < 0 ∨ off > 65536 ∨ (b.length : Int) > 65536 - off ∨ needN (hasF Has) off b.length > room then 0 else needN (hasF Has) off b.length) ∧
        (∀ B' Has', ((off < 0 ∨ off > 65536 ∨ (b.length : Int) > 65536 - off ∨ needN (hasF Has) off b.length > room ∨ b.length = 0) ∧ B' = B ∧ Has' = Has ∨
          ¬ (off < 0 ∨ off > 65536 ∨ (b.length : Int) > 65536 - off ∨ needN (hasF Has) off b.length > room ∨ b.length = 0) ∧ RWrote B Has off b B' Has') → SimA l' bl' size' B' Has') := by
  refine Cl.wf fun hw => ?_
  have h1 := hs.size
  have h2 := hs.bmax
  have hneed := hs.need off b.length
  unfold i64 at ho
  by_cases hc : off < 0 ∨ off > 65536 ∨ (b.length : Int) > 65536 - off
  · have hbad : off < 0 ∨ off > 65536 ∨ (b.length : Int) > 65536 - off ∨ needN (hasF Has) off b.length > room := by omega
    simp only [if_pos hbad]
    refine (write_no off room H h hb hbl ho hc).mono fun w H' hn' ⟨e1, e2⟩ => ?_
    subst e2
    refine ⟨?_, l, bl, size, h, Upd.rfl, fun _ h => .inl h, by omega, fun B' Has' hw => ?_⟩
    · rw [e1]
      by_cases c : off < 0
      · simp only [if_pos c]
      · have c2 : off > 65536 ∨ (b.length : Int) > 65536 - off := by omega
        simp only [if_neg c, if_pos c2]
    · rcases hw with ⟨_, rfl, rfl⟩ | ⟨hw, _⟩
      · exact hs
      · exact absurd (by omega) hw
  · have c0 : ¬ off < 0 := by omega
    have c2 : ¬ (off > 65536 ∨ (b.length : Int) > 65536 - off) := by omega
    simp only [if_neg c0, if_neg c2]
    by_cases hr : needN (hasF Has) off b.length > room
    · have hbad : off < 0 ∨ off > 65536 ∨ (b.length : Int) > 65536 - off ∨ needN (hasF Has) off b.length > room := by omega
      simp only [if_pos hbad, if_pos hr]
      refine (write_full off room H h hb hbl (by omega) (by rw [hneed]; exact hr)).mono fun w H' hn' ⟨e1, k⟩ => ?_
      refine ⟨e1, l, bl, size, h.upd hw k fun _ _ => id, Upd.of k, fun _ h => .inl h, by omega, fun B' Has' hw => ?_⟩
      rcases hw with ⟨_, rfl, rfl⟩ | ⟨hw, _⟩
      · exact hs
      · exact absurd (by omega) hw
    · have hbad : ¬ (off < 0 ∨ off > 65536 ∨ (b.length : Int) > 65536 - off ∨ needN (hasF Has) off b.length > room) := by omega
      simp only [if_neg hbad, if_neg hr]
      refine (write_yes off room H h hb hbl hd (by omega) (by rw [hneed]; omega) (by omega)).mono fun w H' hn' ⟨e1, l', bl', hW⟩ => ?_
      rw [hneed] at e1
      have hln : (l'.length : Int) = l.length + needN (hasF Has) off b.length := by
        rw [hW.ln, ← hneed]
        congr 1
        unfold needN
        by_cases h0 : (b.length : Int) < 1
        · rw [if_pos (by omega), show b.length = 0 from by omega, spans_zero_len]; rfl
        · rw [if_neg (by omega), spans_len (by omega) (by omega)]
      refine ⟨e1, l', bl', _, hW.rep, hW.upd, hW.fp, hln, fun B' Has' hw => ?_⟩
      by_cases h0 : b.length = 0
      · rcases hw with ⟨_, rfl, rfl⟩ | ⟨hw, _⟩
        · refine ⟨?_, h2, hs.hlen, fun k => ?_, fun q => ?_⟩
          · rw [if_neg (by omega)]; exact h1
          · rw [hW.som k, hs.dom k]
            have : (decide (off / 64 ≤ k) && decide (k < off / 64 + ((spans off (b.length : Int)).length : Int))) = false := by
              rw [h0, spans_zero_len]; simp
            rw [this, Bool.or_false]
          · rw [hW.cel q, if_neg (by omega)]; exact hs.cel q
        · exact absurd (by omega) hw
      · rcases hw with ⟨hw, _⟩ | ⟨_, hR⟩
        · omega
        · exact hs.wrote hW hR (by omega) (by omega) (by omega) (spans_len (by omega) (by omega))

def wCnt (need off n room : Int) : Int := if off < 0 ∨ off > 65536 ∨ n > 65536 - off ∨ need > room then 0 else need
def wErr (need off n room : Int) : Int := if off < 0 then 22 else if off > 65536 ∨ n > 65536 - off then 27 else if need > room then 28 else 0
theorem RefR.upd {H H' : Heap} {v : AV} {B : List UInt8} {Has : List Bool} {fp : Nat → Prop} (h : RefR H v B Has) (u : Upd fp H H') (hd : ∀ b, blkOf v b → ¬ fp b) : RefR H' v B Has := by
  obtain ⟨a, c, x, a', c', x', rfl, h1, h2, h3⟩ := h
  exact ⟨a, c, x, a', c', x', rfl, h1.upd u fun b hb _ => hd b ⟨_, by simp, hb⟩, h2.upd u fun b hb _ => hd b ⟨_, by simp, hb⟩, h3.upd u fun b hb => hd b ⟨_, by simp, hb⟩⟩
theorem RefR.lt {H : Heap} {v : AV} {B : List UInt8} {Has : List Bool} (h : RefR H v B Has) : ∃ s1 s2, v = .agg [s1, s2] := by
  obtain ⟨a, c, x, a', c', x', rfl, h1, h2, _⟩ := h
  exact ⟨_, _, rfl⟩

end Go.Abs

/- Chapter 06: what a store is. -/
namespace Go.Abs
open Go.Proofs
set_option maxRecDepth 100000
set_option linter.unusedVariables false
set_option linter.unusedSimpArgs false

/-- A node. -/
structure Nd where
  ino : Int
  kind : Int
  links : Int
  holds : Int
  B : List UInt8
  Has : List Bool
  tgt : List UInt8
/-- Where an inode lies. -/
structure Ph where
  blk : Nat
  p : Nat
  r : Nat
  d : Nat
  l : List (Int × Nat)
  bl : Nat → List UInt8
def fileP (x : Nd) (h : Ph) : Option (Nat × Nat) := if x.kind = 1 then some (h.p, 0) else none
def dirP (x : Nd) (h : Ph) : Option (Nat × Nat) := if x.kind = 2 then some (h.d, 0) else none
def cellI (x : Nd) (h : Ph) : AObj := .cells [.int .i64 x.kind, .int .i64 x.links, .int .i64 x.holds, .ptr (fileP x h), .ptr (dirP x h), .str x.tgt] 82 true false
def fpI (q : Nd × Ph) : Nat → Prop := fun z => z = q.2.blk ∨ (q.1.kind = 1 ∧ fpF q.2.p q.2.r q.2.l z) ∨ (q.1.kind = 2 ∧ z = q.2.d)
structure InoR (H : Heap) (x : Nd) (h : Ph) : Prop where
  g : H.get h.blk = some (cellI x h)
  file : x.kind = 1 → FileR H h.p h.r h.l h.bl x.B.length ∧ SimA h.l h.bl x.B.length x.B x.Has
  nofile : x.kind ≠ 1 → x.B = [] ∧ x.Has = []
  dir : x.kind = 2 → H.get h.d = some (.cells [.slice none 0 0 none] 110 true false)
  ap : (x.kind = 1 → ¬ fpF h.p h.r h.l h.blk) ∧ (x.kind = 2 → h.d ≠ h.blk)
theorem InoR.upd {H H' : Heap} {x : Nd} {h : Ph} {fp : Nat → Prop} (i : InoR H x h) (hw : Wf H) (u : Upd fp H H') (hd : ∀ z, fpI (x, h) z → ¬ fp z) : InoR H' x h :=
  ⟨(u.keep _ (hw.lt i.g) (hd _ (.inl rfl))).trans i.g, fun hk => ⟨(i.file hk).1.upd hw u fun b hb => hd b (.inr (.inl ⟨hk, hb⟩)), (i.file hk).2⟩, i.nofile, fun hk => (u.keep _ (hw.lt (i.dir hk)) (hd _ (.inr (.inr ⟨hk, rfl⟩)))).trans (i.dir hk), i.ap⟩
theorem InoR.lt {H : Heap} {x : Nd} {h : Ph} (i : InoR H x h) (hw : Wf H) : ∀ z, fpI (x, h) z → z < H.next := by
  rintro z (rfl | ⟨hk, hz⟩ | ⟨hk, rfl⟩)
  · exact hw.lt i.g
  · exact (i.file hk).1.lt hw z hz
  · exact hw.lt (i.dir hk)
def imapL (Q : List (Nd × Ph)) : List (Int × Nat) := Q.map fun q => (q.1.ino, q.2.blk)
def nds (Q : List (Nd × Ph)) : List Nd := Q.map (·.1)
theorem nds_len (Q : List (Nd × Ph)) : (nds Q).length = Q.length := by simp [nds]
theorem nds_get {Q : List (Nd × Ph)} {i : Nat} {x : Nd} {h : Ph} (hq : Q[i]? = some (x, h)) : (nds Q)[i]? = some x := by simp [nds, hq]
theorem nds_inv {Q : List (Nd × Ph)} {i : Nat} {x : Nd} (hx : (nds Q)[i]? = some x) : ∃ h, Q[i]? = some (x, h) := by
  simp only [nds, List.getElem?_map] at hx
  cases hq : Q[i]? with
  | none => rw [hq] at hx; cases hx
  | some q =>
    rw [hq] at hx
    injection hx with hx
    exact ⟨q.2, by rw [← hx]⟩
theorem nds_set {Q : List (Nd × Ph)} {i : Nat} {x : Nd} {h : Ph} : nds (Q.set i (x, h)) = (nds Q).set i x := by simp [nds, List.map_set]
/-- How many blocks there are. -/
def usedN (N : List Nd) : Nat := (N.map fun x => x.Has.count true).sum
theorem usedN_app (N M : List Nd) : usedN (N ++ M) = usedN N + usedN M := by simp [usedN]
theorem usedN_set : ∀ {N : List Nd} {i : Nat} {x x' : Nd}, N[i]? = some x → usedN (N.set i x') + x.Has.count true = usedN N + x'.Has.count true
  | [], i, x, x', h => by simp at h
  | a :: N, 0, x, x', h => by simp at h; subst h; simp [usedN]; omega
  | a :: N, i + 1, x, x', h => by
    have := usedN_set (N := N) (i := i) (x' := x') (by simpa using h)
    simp [usedN] at this ⊢
    omega
theorem usedN_erase : ∀ {N : List Nd} {i : Nat} {x : Nd}, N[i]? = some x → usedN (N.eraseIdx i) + x.Has.count true = usedN N
  | [], i, x, h => by simp at h
  | a :: N, 0, x, h => by simp at h; subst h; simp [usedN]; omega
  | a :: N, i + 1, x, h => by
    have := usedN_erase (N := N) (i := i) (by simpa using h)
    simp [usedN] at this ⊢
    omega
/-- What holds of the nodes of each store: c bounds how much was done. -/
structure Fine (N : List Nd) (next many blocks : Int) (c : Nat) : Prop where
  rise : ∀ (j k : Nat) (a b : Nd), j < k → N[j]? = some a → N[k]? = some b → a.ino < b.ino
  bd : ∀ x ∈ N, 1 ≤ x.ino ∧ x.ino < next
  nx : 1 ≤ next ∧ next ≤ c + 1
  kd : ∀ x ∈ N, 1 ≤ x.kind ∧ x.kind ≤ 4
  ln : ∀ x ∈ N, 0 ≤ x.links ∧ x.links ≤ 32 ∧ 0 ≤ x.holds ∧ x.holds ≤ c + 1 ∧ 1 ≤ x.links + x.holds
  tg : ∀ x ∈ N, x.tgt.length ≤ 256
  by' : ∀ x ∈ N, x.B.length ≤ 65536 ∧ x.Has.length * 64 < x.B.length + 64
  nf : ∀ x ∈ N, x.kind ≠ 1 → x.B = [] ∧ x.Has = []
  few : (N.length : Int) ≤ many
  mb : 1 ≤ many ∧ many ≤ 256
  bb : 0 ≤ blocks ∧ blocks ≤ 4096
  us : (usedN N : Int) ≤ blocks
  cc : c ≤ 1000
  nt : ∀ x ∈ N, x.kind ≠ 3 → x.tgt = []
theorem Fine.uniq {N : List Nd} {next many blocks : Int} {c : Nat} (f : Fine N next many blocks c) {j k : Nat} {a b : Nd} (ha : N[j]? = some a) (hb : N[k]? = some b) (h : a.ino = b.ino) : j = k := by
  rcases Nat.lt_trichotomy j k with g | g | g
  · have := f.rise j k a b g ha hb; omega
  · exact g
  · have := f.rise k j b a g hb ha; omega
/-- The place of a node. -/
def fnd : List Nd → Int → Option Nat
  | [], _ => none
  | x :: N, n => if x.ino = n then some 0 else (fnd N n).map (· + 1)
theorem fnd_some : ∀ {N : List Nd} {n : Int} {i : Nat}, fnd N n = some i → ∃ x, N[i]? = some x ∧ x.ino = n ∧ ∀ (j : Nat) (y : Nd), j < i → N[j]? = some y → y.ino ≠ n
  | [], n, i, h => by simp [fnd] at h
  | x :: N, n, i, h => by
    unfold fnd at h
    split at h
    · rename_i e
      injection h with h; subst h
      exact ⟨x, by simp, e, fun j y hj => by omega⟩
    · rename_i e
      cases hf : fnd N n with
      | none => rw [hf] at h; cases h
      | some k =>
        rw [hf] at h
        injection h with h; subst h
        obtain ⟨y, h1, h2, h3⟩ := fnd_some hf
        refine ⟨y, by simpa using h1, h2, fun j z hj hz => ?_⟩
        cases j with
        | zero => simp at hz; subst hz; exact e
        | succ j => exact h3 j z (by have : j + 1 < k + 1 := hj; omega) (by simpa using hz)
theorem fnd_none : ∀ {N : List Nd} {n : Int}, fnd N n = none → ∀ x ∈ N, x.ino ≠ n
  | [], n, h => by simp
  | x :: N, n, h => by
    unfold fnd at h
    split at h
    · cases h
    · rename_i e
      cases hf : fnd N n with
      | some k => rw [hf] at h; cases h
      | none =>
        intro y hy
        rcases List.mem_cons.1 hy with rfl | hy
        · exact e
        · exact fnd_none hf y hy
theorem fnd_at {N : List Nd} {next many blocks : Int} {c : Nat} (f : Fine N next many blocks c) {i : Nat} {x : Nd} (h : N[i]? = some x) : fnd N x.ino = some i := by
  cases hf : fnd N x.ino with
  | none => exact absurd rfl (fnd_none hf x (List.mem_of_getElem? h))
  | some k =>
    obtain ⟨y, h1, h2, _⟩ := fnd_some hf
    rw [f.uniq h1 h h2]
/-- A store. -/
structure StoR (H : Heap) (s r0 : Nat) (Q : List (Nd × Ph)) (next many blocks used : Int) : Prop where
  g : H.get s = some (.cells [.map (some r0), .int .i64 next, .int .i64 many, .int .i64 blocks, .int .i64 used] 74 true false)
  m : H.get r0 = some (.map (imap .i64 (pm ptrTo (imapL Q))))
  ino : ∀ (j : Nat) (q : Nd × Ph), Q[j]? = some q → InoR H q.1 q.2
  apart : ∀ (j k : Nat) (a b : Nd × Ph), Q[j]? = some a → Q[k]? = some b → j ≠ k → ∀ z, fpI a z → ¬ fpI b z
  off : ∀ (j : Nat) (q : Nd × Ph), Q[j]? = some q → ¬ fpI q s ∧ ¬ fpI q r0
  ne : s ≠ r0
def footS (s r0 : Nat) (Q : List (Nd × Ph)) : Nat → Prop := fun z => z = s ∨ z = r0 ∨ ∃ (j : Nat) (q : Nd × Ph), Q[j]? = some q ∧ fpI q z
theorem StoR.lt {H : Heap} {s r0 : Nat} {Q : List (Nd × Ph)} {next many blocks used : Int} (h : StoR H s r0 Q next many blocks used) (hw : Wf H) : ∀ z, footS s r0 Q z → z < H.next := by
  rintro z (rfl | rfl | ⟨j, q, hq, hz⟩)
  · exact hw.lt h.g
  · exact hw.lt h.m
  · exact (h.ino j q hq).lt hw z hz
theorem StoR.upd {H H' : Heap} {s r0 : Nat} {Q : List (Nd × Ph)} {next many blocks used : Int} {fp : Nat → Prop} (h : StoR H s r0 Q next many blocks used) (hw : Wf H) (u : Upd fp H H') (hd : ∀ z, footS s r0 Q z → ¬ fp z) : StoR H' s r0 Q next many blocks used :=
  ⟨(u.keep s (hw.lt h.g) (hd _ (.inl rfl))).trans h.g, (u.keep r0 (hw.lt h.m) (hd _ (.inr (.inl rfl)))).trans h.m, fun j q hq => (h.ino j q hq).upd hw u fun z hz => hd z (.inr (.inr ⟨j, q, hq, hz⟩)), h.apart, h.off, h.ne⟩
theorem StoR.kept {H H' : Heap} {s r0 : Nat} {Q : List (Nd × Ph)} {next many blocks used : Int} (h : StoR H s r0 Q next many blocks used) (hw : Wf H) (k : Keep H H') : StoR H' s r0 Q next many blocks used := h.upd hw k fun _ _ h => h
theorem imapL_set {Q : List (Nd × Ph)} {i : Nat} {x x' : Nd} {h h' : Ph} (hq : Q[i]? = some (x, h)) (h1 : x'.ino = x.ino) (h2 : h'.blk = h.blk) : imapL (Q.set i (x', h')) = imapL Q := by
  apply List.ext_getElem?
  intro j
  simp only [imapL, List.getElem?_map, List.getElem?_set]
  split
  · rename_i e
    subst e
    have := (List.getElem?_eq_some_iff.1 hq).1
    rw [if_pos this, hq]
    simp [h1, h2]
  · rfl
/-- An inode turned. -/
theorem StoR.turn {H H' : Heap} {s r0 : Nat} {Q : List (Nd × Ph)} {next many blocks used used' : Int} (h : StoR H s r0 Q next many blocks used) (hw : Wf H) {i : Nat} {x x' : Nd} {p p' : Ph} (hq : Q[i]? = some (x, p))
    (hg : H'.get s = some (.cells [.map (some r0), .int .i64 next, .int .i64 many, .int .i64 blocks, .int .i64 used'] 74 true false)) (u : Upd (fun z => z = s ∨ fpI (x, p) z) H H') (hi : InoR H' x' p') (h1 : x'.ino = x.ino) (h2 : p'.blk = p.blk)
    (hfp : ∀ z, fpI (x', p') z → fpI (x, p) z ∨ H.next ≤ z) : StoR H' s r0 (Q.set i (x', p')) next many blocks used' := by
  have hil := (List.getElem?_eq_some_iff.1 hq).1
  have key : ∀ (j : Nat) (q : Nd × Ph), (Q.set i (x', p'))[j]? = some q → (j = i ∧ q = (x', p')) ∨ (j ≠ i ∧ Q[j]? = some q) := fun j q hj => by
    rw [List.getElem?_set] at hj
    split at hj
    · rename_i e
      subst e
      first | (rw [if_pos hil] at hj) | skip
      injection hj with hj
      exact .inl ⟨rfl, hj.symm⟩
    · rename_i e
      exact .inr ⟨fun e' => e e'.symm, hj⟩
  have hsl := hw.lt h.g
  have hrl := hw.lt h.m
  obtain ⟨o1, o2⟩ := h.off i _ hq
  refine ⟨hg, ?_, ?_, ?_, ?_, h.ne⟩
  · rw [imapL_set hq h1 h2]
    refine (u.keep r0 hrl fun hc => ?_).trans h.m
    rcases hc with hc | hc
    · exact h.ne hc.symm
    · exact o2 hc
  · intro j q hj
    rcases key j q hj with ⟨_, rfl⟩ | ⟨hne, hj⟩
    · exact hi
    · refine (h.ino j q hj).upd hw u fun z hz hc => ?_
      rcases hc with rfl | hc
      · exact (h.off j q hj).1 hz
      · exact h.apart j i q _ hj hq hne z hz hc
  · intro j k a b ha hb hne z hz hc
    rcases key j a ha with ⟨e1, rfl⟩ | ⟨e1, ha⟩
    · rcases key k b hb with ⟨e2, rfl⟩ | ⟨e2, hb⟩
      · omega
      · rcases hfp z hz with g | g
        · exact h.apart i k _ b hq hb (fun e => e2 e.symm) z g hc
        · have := (h.ino k b hb).lt hw z hc
          omega
    · rcases key k b hb with ⟨e2, rfl⟩ | ⟨e2, hb⟩
      · rcases hfp z hc with g | g
        · exact h.apart j i a _ ha hq e1 z hz g
        · have := (h.ino j a ha).lt hw z hz
          omega
      · exact h.apart j k a b ha hb hne z hz hc
  · intro j q hj
    rcases key j q hj with ⟨_, rfl⟩ | ⟨hne, hj⟩
    · refine ⟨fun hc => ?_, fun hc => ?_⟩
      · rcases hfp _ hc with g | g
        · exact o1 g
        · omega
      · rcases hfp _ hc with g | g
        · exact o2 g
        · omega
    · exact h.off j q hj
theorem footS_set {s r0 : Nat} {Q : List (Nd × Ph)} {i n : Nat} {x x' : Nd} {p p' : Ph} (hq : Q[i]? = some (x, p)) (hfp : ∀ z, fpI (x', p') z → fpI (x, p) z ∨ n ≤ z) : ∀ z, footS s r0 (Q.set i (x', p')) z → footS s r0 Q z ∨ n ≤ z := by
  rintro z (rfl | rfl | ⟨j, q, hj, hz⟩)
  · exact .inl (.inl rfl)
  · exact .inl (.inr (.inl rfl))
  · rw [List.getElem?_set] at hj
    split at hj
    · split at hj
      · injection hj with hj
        subst hj
        rcases hfp z hz with g | g
        · exact .inl (.inr (.inr ⟨i, _, hq, g⟩))
        · exact .inr g
      · cases hj
    · exact .inl (.inr (.inr ⟨j, q, hj, hz⟩))
/-! ## numbers in the map -/
theorem iget_imapL : ∀ {Q : List (Nd × Ph)} {i : Nat} {x : Nd} {p : Ph}, (∀ (j k : Nat) (a b : Nd), j < k → (nds Q)[j]? = some a → (nds Q)[k]? = some b → a.ino < b.ino) → Q[i]? = some (x, p) → iget x.ino (imapL Q) = some p.blk
  | [], i, x, p, _, h => by simp at h
  | q :: Q, 0, x, p, _, h => by
    simp at h
    subst h
    simp [imapL, iget]
  | q :: Q, i + 1, x, p, hr, h => by
    have h' : Q[i]? = some (x, p) := by simpa using h
    have hlt := hr 0 (i + 1) q.1 x (by omega) (by simp [nds]) (by simp [nds, h'])
    have ih := iget_imapL (Q := Q) (i := i) (fun j k a b hjk ha hb => hr (j + 1) (k + 1) a b (by omega) (by simpa [nds] using ha) (by simpa [nds] using hb)) h'
    simp only [imapL, List.map_cons, iget]
    rw [if_neg (by omega)]
    exact ih
theorem iget_imapL_no : ∀ {Q : List (Nd × Ph)} {n : Int}, (∀ x ∈ nds Q, x.ino ≠ n) → iget n (imapL Q) = none
  | [], n, _ => rfl
  | q :: Q, n, h => by
    simp only [imapL, List.map_cons, iget]
    rw [if_neg (h q.1 (by simp [nds]))]
    exact iget_imapL_no fun x hx => h x (by simp [nds] at hx ⊢; exact .inr hx)
theorem iset_imapL : ∀ {Q : List (Nd × Ph)} {n : Int} {b : Nat}, (∀ x ∈ nds Q, x.ino ≠ n) → iset n b (imapL Q) = imapL Q ++ [(n, b)]
  | [], n, b, _ => rfl
  | q :: Q, n, b, h => by
    simp only [imapL, List.map_cons, iset]
    rw [if_neg (h q.1 (by simp [nds]))]
    have := iset_imapL (Q := Q) (n := n) (b := b) fun x hx => h x (by simp [nds] at hx ⊢; exact .inr hx)
    simp only [imapL] at this
    rw [this]
    rfl
theorem idel_imapL : ∀ {Q : List (Nd × Ph)} {i : Nat} {x : Nd} {p : Ph}, (∀ (j k : Nat) (a b : Nd), j < k → (nds Q)[j]? = some a → (nds Q)[k]? = some b → a.ino < b.ino) → Q[i]? = some (x, p) → idel x.ino (imapL Q) = imapL (Q.eraseIdx i)
  | [], i, x, p, _, h => by simp at h
  | q :: Q, 0, x, p, _, h => by
    simp at h
    subst h
    simp [imapL, idel]
  | q :: Q, i + 1, x, p, hr, h => by
    have h' : Q[i]? = some (x, p) := by simpa using h
    have hlt := hr 0 (i + 1) q.1 x (by omega) (by simp [nds]) (by simp [nds, h'])
    have ih := idel_imapL (Q := Q) (i := i) (fun j k a b hjk ha hb => hr (j + 1) (k + 1) a b (by omega) (by simpa [nds] using ha) (by simpa [nds] using hb)) h'
    simp only [imapL, List.map_cons, idel, List.eraseIdx_cons_succ]
    rw [if_neg (by omega)]
    simp only [imapL] at ih
    rw [ih]
/-- An inode that is gone. -/
theorem StoR.gone {H H' : Heap} {s r0 : Nat} {Q : List (Nd × Ph)} {next many blocks used used' : Int} (h : StoR H s r0 Q next many blocks used) (hw : Wf H) {i : Nat} {x : Nd} {p : Ph} (hq : Q[i]? = some (x, p))
    (hr : ∀ (j k : Nat) (a b : Nd), j < k → (nds Q)[j]? = some a → (nds Q)[k]? = some b → a.ino < b.ino)
    (hg : H'.get s = some (.cells [.map (some r0), .int .i64 next, .int .i64 many, .int .i64 blocks, .int .i64 used'] 74 true false)) (hm : H'.get r0 = some (.map (imap .i64 (pm ptrTo (idel x.ino (imapL Q)))))) (u : Upd (fun z => z = s ∨ z = r0 ∨ fpI (x, p) z) H H') : StoR H' s r0 (Q.eraseIdx i) next many blocks used' := by
  have key : ∀ (j : Nat) (q : Nd × Ph), (Q.eraseIdx i)[j]? = some q → ∃ k, k ≠ i ∧ Q[k]? = some q ∧ k = if j < i then j else j + 1 := fun j q hj => by
    rw [List.getElem?_eraseIdx] at hj
    split at hj
    · exact ⟨j, by omega, hj, by simp [*]⟩
    · exact ⟨j + 1, by omega, hj, by simp [*]⟩
  refine ⟨hg, by rw [hm, idel_imapL hr hq], ?_, ?_, ?_, h.ne⟩
  · intro j q hj
    obtain ⟨k, hk, hj, _⟩ := key j q hj
    refine (h.ino k q hj).upd hw u fun z hz hc => ?_
    rcases hc with rfl | rfl | hc
    · exact (h.off k q hj).1 hz
    · exact (h.off k q hj).2 hz
    · exact h.apart k i q _ hj hq hk z hz hc
  · intro j k a b ha hb hne
    obtain ⟨j', _, ha, e1⟩ := key j a ha
    obtain ⟨k', _, hb, e2⟩ := key k b hb
    refine h.apart j' k' a b ha hb ?_
    intro e
    rw [e1, e2] at e
    split at e <;> split at e <;> omega
  · intro j q hj
    obtain ⟨k, _, hj, _⟩ := key j q hj
    exact h.off k q hj
theorem footS_erase {s r0 : Nat} {Q : List (Nd × Ph)} {i : Nat} : ∀ z, footS s r0 (Q.eraseIdx i) z → footS s r0 Q z := by
  rintro z (rfl | rfl | ⟨j, q, hj, hz⟩)
  · exact .inl rfl
  · exact .inr (.inl rfl)
  · rw [List.getElem?_eraseIdx] at hj
    split at hj
    · exact .inr (.inr ⟨_, q, hj, hz⟩)
    · exact .inr (.inr ⟨_, q, hj, hz⟩)
/-- An inode that is new. -/
theorem StoR.more {H H' : Heap} {s r0 : Nat} {Q : List (Nd × Ph)} {next next' many blocks used : Int} (h : StoR H s r0 Q next many blocks used) (hw : Wf H) {x : Nd} {p : Ph} (hn : ∀ y ∈ nds Q, y.ino ≠ x.ino)
    (hg : H'.get s = some (.cells [.map (some r0), .int .i64 next', .int .i64 many, .int .i64 blocks, .int .i64 used] 74 true false)) (hm : H'.get r0 = some (.map (imap .i64 (pm ptrTo (iset x.ino p.blk (imapL Q)))))) (u : Upd (fun z => z = s ∨ z = r0) H H')
    (hi : InoR H' x p) (hnew : ∀ z, fpI (x, p) z → H.next ≤ z) : StoR H' s r0 (Q ++ [(x, p)]) next' many blocks used := by
  have key : ∀ (j : Nat) (q : Nd × Ph), (Q ++ [(x, p)])[j]? = some q → (j = Q.length ∧ q = (x, p)) ∨ (j < Q.length ∧ Q[j]? = some q) := fun j q hj => by
    by_cases hl : j < Q.length
    · rw [List.getElem?_append_left hl] at hj
      exact .inr ⟨hl, hj⟩
    · rw [List.getElem?_append_right (by omega)] at hj
      have := (List.getElem?_eq_some_iff.1 hj).1
      simp at this
      have e : j = Q.length := by omega
      subst e
      simp at hj
      exact .inl ⟨rfl, hj.symm⟩
  have hsl := hw.lt h.g
  have hrl := hw.lt h.m
  refine ⟨hg, by rw [hm, iset_imapL hn]; simp [imapL], ?_, ?_, ?_, h.ne⟩
  · intro j q hj
    rcases key j q hj with ⟨_, rfl⟩ | ⟨_, hj⟩
    · exact hi
    · refine (h.ino j q hj).upd hw u fun z hz hc => ?_
      rcases hc with rfl | rfl
      · exact (h.off j q hj).1 hz
      · exact (h.off j q hj).2 hz
  · intro j k a b ha hb hne z hz hc
    rcases key j a ha with ⟨e1, rfl⟩ | ⟨e1, ha⟩
    · rcases key k b hb with ⟨e2, rfl⟩ | ⟨e2, hb⟩
      · omega
      · have := hnew z hz
        have := (h.ino k b hb).lt hw z hc
        omega
    · rcases key k b hb with ⟨e2, rfl⟩ | ⟨e2, hb⟩
      · have := hnew z hc
        have := (h.ino j a ha).lt hw z hz
        omega
      · exact h.apart j k a b ha hb hne z hz hc
  · intro j q hj
    rcases key j q hj with ⟨_, rfl⟩ | ⟨_, hj⟩
    · exact ⟨fun hc => by have := hnew _ hc; omega, fun hc => by have := hnew _ hc; omega⟩
    · exact h.off j q hj
theorem footS_more {s r0 n : Nat} {Q : List (Nd × Ph)} {x : Nd} {p : Ph} (hnew : ∀ z, fpI (x, p) z → n ≤ z) : ∀ z, footS s r0 (Q ++ [(x, p)]) z → footS s r0 Q z ∨ n ≤ z := by
  rintro z (rfl | rfl | ⟨j, q, hj, hz⟩)
  · exact .inl (.inl rfl)
  · exact .inl (.inr (.inl rfl))
  · by_cases hl : j < Q.length
    · rw [List.getElem?_append_left hl] at hj
      exact .inl (.inr (.inr ⟨j, q, hj, hz⟩))
    · rw [List.getElem?_append_right (by omega)] at hj
      have := (List.getElem?_eq_some_iff.1 hj).1
      simp at this
      rw [show j - Q.length = 0 by omega] at hj
      simp at hj
      subst hj
      exact .inr (hnew z hz)
end Go.Abs

/- Chapter 06: an inode, its links and holds, walked. -/
namespace Go.Abs
open Go.Proofs
set_option maxRecDepth 100000
set_option linter.unusedVariables false
set_option linter.unusedSimpArgs false

theorem size_nil (H : Heap) : Cl Try.prog pr06 37 [.ptr none] H fun v H' => v = .int .i64 0 ∧ H' = H := by
  refine Cl.enter Try.func37 rfl rfl Try.ntmps37 (by simp) ?_
  refine walk none0 ?_
  exact ⟨rfl, rfl⟩
theorem blocks_nil (H : Heap) : Cl Try.prog pr06 39 [.ptr none] H fun v H' => v = .int .i64 0 ∧ H' = H := by
  refine Cl.enter Try.func39 rfl rfl Try.ntmps39 (by simp) ?_
  refine walk none0 ?_
  exact ⟨rfl, rfl⟩
theorem len_nil (H : Heap) : Cl Try.prog pr06 38 [.ptr none] H fun v H' => v = .int .i64 0 ∧ H' = H := by
  refine Cl.enter Try.func38 rfl rfl Try.ntmps38 (by simp) ?_
  refine walk none0 ?_
  exact ⟨rfl, rfl⟩
theorem len_new (d : Nat) (H : Heap) (h : H.get d = some (.cells [.slice none 0 0 none] 110 true false)) : Cl Try.prog pr06 38 [.ptr (some (d, 0))] H fun v H' => v = .int .i64 0 ∧ H' = H := by
  refine Cl.enter Try.func38 rfl rfl Try.ntmps38 (by simp) ?_
  refine walk h ?_
  exact ⟨rfl, rfl⟩
section
variable {H : Heap} {x : Nd} {p : Ph}
theorem sizeI (i : InoR H x p) : Cl Try.prog pr06 37 [.ptr (fileP x p)] H fun v H' => v = .int .i64 x.B.length ∧ H' = H := by
  by_cases hk : x.kind = 1
  · rw [show fileP x p = some (p.p, 0) from if_pos hk]
    exact size_some _ _ _ H (i.file hk).1.p0
  · rw [show fileP x p = none from if_neg hk]
    refine (size_nil H).mono fun v H' _ ⟨ea, eb⟩ => ⟨?_, eb⟩
    rw [ea, (i.nofile hk).1]
    rfl
theorem blocksI (i : InoR H x p) : Cl Try.prog pr06 39 [.ptr (fileP x p)] H fun v H' => v = .int .i64 (x.Has.count true) ∧ H' = H := by
  by_cases hk : x.kind = 1
  · rw [show fileP x p = some (p.p, 0) from if_pos hk]
    obtain ⟨f, a⟩ := i.file hk
    rw [← len_count _ x.Has p.l rfl f.once a.dom]
    exact blocks_some _ _ _ _ H f.p0 f.r0
  · rw [show fileP x p = none from if_neg hk]
    refine (blocks_nil H).mono fun v H' _ ⟨ea, eb⟩ => ⟨?_, eb⟩
    rw [ea, (i.nofile hk).2]
    rfl
theorem lenI (i : InoR H x p) : Cl Try.prog pr06 38 [.ptr (dirP x p)] H fun v H' => v = .int .i64 0 ∧ H' = H := by
  by_cases hk : x.kind = 2
  · rw [show dirP x p = some (p.d, 0) from if_pos hk]
    exact len_new _ H (i.dir hk)
  · rw [show dirP x p = none from if_neg hk]
    exact len_nil H
/-- Numbers of an inode turned. -/
theorem InoR.put {x' : Nd} (i : InoR H x p) (h1 : x'.kind = x.kind) (h2 : x'.B = x.B) (h3 : x'.Has = x.Has) : InoR (H.set p.blk (cellI x' p)) x' p := by
  refine ⟨Heap.get_set_same _ _ _, fun hk => ?_, fun hk => ?_, fun hk => ?_, by rw [h1]; exact i.ap⟩
  · rw [h1] at hk
    rw [h2, h3]
    exact ⟨(i.file hk).1.keep fun b hb => Heap.get_set_ne _ _ fun e => i.ap.1 hk (e ▸ hb), (i.file hk).2⟩
  · rw [h1] at hk
    rw [h2, h3]
    exact i.nofile hk
  · rw [h1] at hk
    rw [Heap.get_set_ne _ _ (i.ap.2 hk)]
    exact i.dir hk
theorem fpI_put {x' : Nd} (h1 : x'.kind = x.kind) : fpI (x', p) = fpI (x, p) := by
  unfold fpI
  simp only [h1]
end
section
variable {H : Heap} {s r0 : Nat} {Q : List (Nd × Ph)} {next many blocks used : Int} {c : Nat} {i : Nat} {x : Nd} {p : Ph}
theorem get36_no (h : StoR H s r0 Q next many blocks used) {n : Int} (hn : ∀ x ∈ nds Q, x.ino ≠ n) : Cl Try.prog pr06 36 [.ptr (some (s, 0)), .int .i64 n] H fun v H' => v = .tuple [.ptr none, .int .i64 2] ∧ H' = H := by
  have hg := h.g
  have hm := h.m
  have hi := iget_imapL_no hn
  refine Cl.enter Try.func36 rfl rfl Try.ntmps36 (by simp) ?_
  refine walk (both hg (both hm hi)) ?_
  exact ⟨rfl, rfl⟩
theorem get36_yes (h : StoR H s r0 Q next many blocks used) (f : Fine (nds Q) next many blocks c) (hq : Q[i]? = some (x, p)) : Cl Try.prog pr06 36 [.ptr (some (s, 0)), .int .i64 x.ino] H fun v H' => v = .tuple [.ptr (some (p.blk, 0)), .int .i64 0] ∧ H' = H := by
  have hg := h.g
  have hm := h.m
  have hi := iget_imapL f.rise hq
  refine Cl.enter Try.func36 rfl rfl Try.ntmps36 (by simp) ?_
  refine walk (both hg (both hm hi)) ?_
  exact ⟨rfl, rfl⟩
theorem get36_nil (n : Int) (H : Heap) : Cl Try.prog pr06 36 [.ptr none, .int .i64 n] H fun v H' => v = .tuple [.ptr none, .int .i64 22] ∧ H' = H := by
  refine Cl.enter Try.func36 rfl rfl Try.ntmps36 (by simp) ?_
  refine walk none0 ?_
  exact ⟨rfl, rfl⟩
theorem Link23_no (h : StoR H s r0 Q next many blocks used) {n : Int} (hn : ∀ x ∈ nds Q, x.ino ≠ n) : Cl Try.prog pr06 23 [.ptr (some (s, 0)), .int .i64 n] H fun v H' => v = .int .i64 2 ∧ H' = H := by
  refine Cl.enter Try.func23 rfl rfl Try.ntmps23 (by simp) ?_
  refine walk none0 ?_
  refine (get36_no h hn).mono fun v H1 _ ⟨ea, eb⟩ => ?_
  subst ea; subst eb
  refine walk none0 ?_
  exact ⟨rfl, rfl⟩
theorem Link23_yes (h : StoR H s r0 Q next many blocks used) (f : Fine (nds Q) next many blocks c) (hq : Q[i]? = some (x, p)) : Cl Try.prog pr06 23 [.ptr (some (s, 0)), .int .i64 x.ino] H fun v H' =>
    (32 ≤ x.links ∧ v = .int .i64 31 ∧ H' = H) ∨ (¬ 32 ≤ x.links ∧ v = .int .i64 0 ∧ H' = H.set p.blk (cellI { x with links := x.links + 1 } p)) := by
  have hl := f.ln x (List.mem_of_getElem? (nds_get hq))
  have hc := (h.ino i _ hq).g
  simp only [cellI] at hc
  refine Cl.enter Try.func23 rfl rfl Try.ntmps23 (by simp) ?_
  refine walk none0 ?_
  refine (get36_yes h f hq).mono fun v H1 _ ⟨ea, eb⟩ => ?_
  subst ea; subst eb
  by_cases h1 : 32 ≤ x.links
  · refine walk (both hc h1) ?_
    exact .inl ⟨h1, rfl, rfl⟩
  · refine walk (both hc h1) ?_
    exact .inr ⟨h1, rfl, rfl⟩
theorem Hold25_no (h : StoR H s r0 Q next many blocks used) {n : Int} (hn : ∀ x ∈ nds Q, x.ino ≠ n) : Cl Try.prog pr06 25 [.ptr (some (s, 0)), .int .i64 n] H fun v H' => v = .int .i64 2 ∧ H' = H := by
  refine Cl.enter Try.func25 rfl rfl Try.ntmps25 (by simp) ?_
  refine walk none0 ?_
  refine (get36_no h hn).mono fun v H1 _ ⟨ea, eb⟩ => ?_
  subst ea; subst eb
  refine walk none0 ?_
  exact ⟨rfl, rfl⟩
theorem Hold25_yes (h : StoR H s r0 Q next many blocks used) (f : Fine (nds Q) next many blocks c) (hq : Q[i]? = some (x, p)) : Cl Try.prog pr06 25 [.ptr (some (s, 0)), .int .i64 x.ino] H fun v H' =>
    v = .int .i64 0 ∧ H' = H.set p.blk (cellI { x with holds := x.holds + 1 } p) := by
  have hl := f.ln x (List.mem_of_getElem? (nds_get hq))
  have hcc := f.cc
  have hc := (h.ino i _ hq).g
  simp only [cellI] at hc
  refine Cl.enter Try.func25 rfl rfl Try.ntmps25 (by simp) ?_
  refine walk none0 ?_
  refine (get36_yes h f hq).mono fun v H1 _ ⟨ea, eb⟩ => ?_
  subst ea; subst eb
  refine walk hc ?_
  exact ⟨rfl, rfl⟩
theorem Dir29_no (h : StoR H s r0 Q next many blocks used) {n : Int} (hn : ∀ x ∈ nds Q, x.ino ≠ n) : Cl Try.prog pr06 29 [.ptr (some (s, 0)), .int .i64 n] H fun v H' => v = .ptr none ∧ H' = H := by
  refine Cl.enter Try.func29 rfl rfl Try.ntmps29 (by simp) ?_
  refine walk none0 ?_
  refine (get36_no h hn).mono fun v H1 _ ⟨ea, eb⟩ => ?_
  subst ea; subst eb
  refine walk none0 ?_
  exact ⟨rfl, rfl⟩
theorem Dir29_yes (h : StoR H s r0 Q next many blocks used) (f : Fine (nds Q) next many blocks c) (hq : Q[i]? = some (x, p)) : Cl Try.prog pr06 29 [.ptr (some (s, 0)), .int .i64 x.ino] H fun v H' => v = .ptr (dirP x p) ∧ H' = H := by
  have hc := (h.ino i _ hq).g
  simp only [cellI] at hc
  refine Cl.enter Try.func29 rfl rfl Try.ntmps29 (by simp) ?_
  refine walk none0 ?_
  refine (get36_yes h f hq).mono fun v H1 _ ⟨ea, eb⟩ => ?_
  subst ea; subst eb
  refine walk hc ?_
  exact ⟨rfl, rfl⟩
theorem Target42_yes (h : StoR H s r0 Q next many blocks used) (f : Fine (nds Q) next many blocks c) (hq : Q[i]? = some (x, p)) : Cl Try.prog pr06 42 [.ptr (some (s, 0)), .int .i64 x.ino] H fun v H' => v = .tuple [.str (if x.kind = 3 then x.tgt else []), .bool (decide (x.kind = 3))] ∧ H' = H := by
  have hc := (h.ino i _ hq).g
  simp only [cellI] at hc
  refine Cl.enter Try.func42 rfl rfl Try.ntmps42 (by simp) ?_
  refine walk none0 ?_
  refine (get36_yes h f hq).mono fun v H1 _ ⟨ea, eb⟩ => ?_
  subst ea; subst eb
  by_cases hk : x.kind = 3
  · refine walk (both hc hk) ?_
    exact ⟨by simp [hk], rfl⟩
  · refine walk (both hc hk) ?_
    exact ⟨by simp [hk], rfl⟩
theorem file44_no (h : StoR H s r0 Q next many blocks used) {n : Int} (hn : ∀ x ∈ nds Q, x.ino ≠ n) : Cl Try.prog pr06 44 [.ptr (some (s, 0)), .int .i64 n] H fun v H' => v = .tuple [.ptr none, .int .i64 2] ∧ H' = H := by
  refine Cl.enter Try.func44 rfl rfl Try.ntmps44 (by simp) ?_
  refine walk none0 ?_
  refine (get36_no h hn).mono fun v H1 _ ⟨ea, eb⟩ => ?_
  subst ea; subst eb
  refine walk none0 ?_
  exact ⟨rfl, rfl⟩
theorem file44_yes (h : StoR H s r0 Q next many blocks used) (f : Fine (nds Q) next many blocks c) (hq : Q[i]? = some (x, p)) : Cl Try.prog pr06 44 [.ptr (some (s, 0)), .int .i64 x.ino] H fun v H' => v = .tuple [.ptr (fileP x p), .int .i64 (if x.kind = 1 then 0 else 22)] ∧ H' = H := by
  have hc := (h.ino i _ hq).g
  simp only [cellI] at hc
  refine Cl.enter Try.func44 rfl rfl Try.ntmps44 (by simp) ?_
  refine walk none0 ?_
  refine (get36_yes h f hq).mono fun v H1 _ ⟨ea, eb⟩ => ?_
  subst ea; subst eb
  by_cases hk : x.kind = 1
  · have e : fileP x p = some (p.p, 0) := if_pos hk
    rw [e] at hc ⊢
    refine walk hc ?_
    exact ⟨by simp [hk], rfl⟩
  · have e : fileP x p = none := if_neg hk
    rw [e] at hc ⊢
    refine walk hc ?_
    exact ⟨by simp [hk], rfl⟩
end
end Go.Abs

/- Chapter 06: links and holds taken away, walked. -/
namespace Go.Abs
open Go.Proofs
set_option maxRecDepth 100000
set_option linter.unusedVariables false
set_option linter.unusedSimpArgs false

theorem fld53_ok (b : Nat) (cs : List AV) (t : TypeId) (H : Heap) (h : H.get b = some (.cells cs 82 true false)) (hl : cs.length = 6) : Cl Try.prog pr06 53 [.ptr (some (b, 0))] H fun v H' => v = .ptr (some (b, 1)) ∧ H' = H := by
  refine Cl.enter Try.func53 rfl rfl Try.ntmps53 (by simp) ?_
  refine walk h ?_
  exact ⟨rfl, rfl⟩
theorem fld54_ok (b : Nat) (cs : List AV) (t : TypeId) (H : Heap) (h : H.get b = some (.cells cs 82 true false)) (hl : cs.length = 6) : Cl Try.prog pr06 54 [.ptr (some (b, 0))] H fun v H' => v = .ptr (some (b, 2)) ∧ H' = H := by
  refine Cl.enter Try.func54 rfl rfl Try.ntmps54 (by simp) ?_
  refine walk h ?_
  exact ⟨rfl, rfl⟩
section
variable {H : Heap} {s r0 : Nat} {Q : List (Nd × Ph)} {next many blocks used : Int} {c : Nat} {i : Nat} {x : Nd} {p : Ph}
/-- What comes of one less: n: how many there were; x': the inode with one less. -/
def LessR (H H' : Heap) (s r0 : Nat) (Q : List (Nd × Ph)) (next many blocks used : Int) (i : Nat) (x x' : Nd) (p : Ph) (n : Int) (v : AV) : Prop :=
  (n = 0 ∧ v = .int .i64 22 ∧ H' = H) ∨ (n ≠ 0 ∧ ¬ (x'.links = 0 ∧ x'.holds = 0) ∧ v = .int .i64 0 ∧ StoR H' s r0 (Q.set i (x', p)) next many blocks used ∧ Upd (footS s r0 Q) H H') ∨
  (n ≠ 0 ∧ x'.links = 0 ∧ x'.holds = 0 ∧ v = .int .i64 0 ∧ StoR H' s r0 (Q.eraseIdx i) next many blocks (used - x.Has.count true) ∧ Upd (footS s r0 Q) H H')
theorem less52_no (h : StoR H s r0 Q next many blocks used) {n : Int} (g : AV) (hn : ∀ x ∈ nds Q, x.ino ≠ n) : Cl Try.prog pr06 52 [.ptr (some (s, 0)), .int .i64 n, g] H fun v H' => v = .int .i64 2 ∧ H' = H := by
  refine Cl.enter Try.func52 rfl rfl Try.ntmps52 (by simp) ?_
  refine walk none0 ?_
  refine (get36_no h hn).mono fun v H1 _ ⟨ea, eb⟩ => ?_
  subst ea; subst eb
  refine walk none0 ?_
  exact ⟨rfl, rfl⟩
theorem less53_yes (h : StoR H s r0 Q next many blocks used) (hw : Wf H) (f : Fine (nds Q) next many blocks c) (hq : Q[i]? = some (x, p)) (hu : 0 ≤ used ∧ used ≤ 4096) : Cl Try.prog pr06 52 [.ptr (some (s, 0)), .int .i64 x.ino, .func (.func 53) [] []] H fun v H' =>
    LessR H H' s r0 Q next many blocks used i x { x with links := x.links - 1 } p x.links v := by
  have hl := f.ln x (List.mem_of_getElem? (nds_get hq))
  have hcc := f.cc
  have hI := h.ino i _ hq
  have hc := hI.g
  have hg := h.g
  have hm := h.m
  obtain ⟨o1, o2⟩ := h.off i _ hq
  have ns : p.blk ≠ s := fun e => o1 (.inl e.symm)
  have nr : p.blk ≠ r0 := fun e => o2 (.inl e.symm)
  have hbl := hw.lt hc
  have hsl := hw.lt hg
  have hrl := hw.lt hm
  have hI1 : InoR (H.set p.blk (cellI { x with links := x.links - 1 } p)) { x with links := x.links - 1 } p := hI.put rfl rfl rfl
  have hB := (f.by' x (List.mem_of_getElem? (nds_get hq)))
  have hcnt : x.Has.count true ≤ x.Has.length := List.count_le_length
  have hfS : ∀ z, fpI (x, p) z → footS s r0 Q z := fun z hz => .inr (.inr ⟨i, _, hq, hz⟩)
  simp only [cellI] at hc
  refine Cl.enter Try.func52 rfl rfl Try.ntmps52 (by simp) ?_
  refine walk none0 ?_
  refine (get36_yes h f hq).mono fun v H1 _ ⟨ea, eb⟩ => ?_
  subst ea; subst eb
  refine walk none0 ?_
  refine (fld53_ok _ _ 82 _ hc rfl).mono fun v H2 _ ⟨ea, eb⟩ => ?_
  subst ea; subst eb
  by_cases h0 : x.links = 0
  · refine walk (both hc h0) ?_
    exact .inl ⟨h0, rfl, rfl⟩
  · refine walk (both hc h0) ?_
    obtain ⟨H3, e3⟩ : ∃ H3, H3 = H2.set p.blk (.cells [.int .i64 x.kind, .int .i64 (x.links - 1), .int .i64 x.holds, .ptr (fileP x p), .ptr (dirP x p), .str x.tgt] 82 true false) := ⟨_, rfl⟩
    have hI3 : InoR H3 { x with links := x.links - 1 } p := by rw [e3]; exact hI1
    have hcn : H3.get p.blk = some (.cells [.int .i64 x.kind, .int .i64 (x.links - 1), .int .i64 x.holds, .ptr (fileP x p), .ptr (dirP x p), .str x.tgt] 82 true false) := by rw [e3]; exact Heap.get_set_same _ _ _
    have hgn : H3.get s = some (.cells [.map (some r0), .int .i64 next, .int .i64 many, .int .i64 blocks, .int .i64 used] 74 true false) := by rw [e3, Heap.get_set_ne _ _ (fun e => ns e.symm)]; exact hg
    have hmn : H3.get r0 = some (.map (imap .i64 (pm ptrTo (imapL Q)))) := by rw [e3, Heap.get_set_ne _ _ (fun e => nr e.symm)]; exact hm
    have hun : Upd (fun z => z = s ∨ fpI (x, p) z) H2 H3 := by rw [e3]; exact Upd.rfl.set _ hbl fun _ => .inr (.inl rfl)
    have hnn : H3.next = H2.next := by rw [e3]; simp
    rw [← e3]
    clear e3
    have hbk : Cl Try.prog pr06 39 [.ptr (fileP x p)] H3 fun v H' => v = .int .i64 (x.Has.count true) ∧ H' = H3 := by
      have e := blocksI hI3
      exact e
    by_cases g1 : (x.links - 1) = 0
    · by_cases g2 : x.holds = 0
      · refine walk (both hcn (both g1 g2)) ?_
        refine Wq.regionM [(4, 0), (5, 0), (6, 0), (7, 0), (8, 0), (0, 0), (1, 0), (2, 0), (3, 2), (9, 0), (10, 0), (11, 0), (12, 0)] (by kernel_rfl) ?_
        refine mwalk (both hcn hgn) ?_
        refine hbk.mono fun v H4 _ ⟨ea, eb⟩ => ?_
        subst ea; subst eb
        refine mwalk (both hcn hgn) ?_
        have hm4 : (H4.set s (.cells [.map (some r0), .int .i64 next, .int .i64 many, .int .i64 blocks, .int .i64 (used - x.Has.count true)] 74 true false)).get r0 = some (.map (imap .i64 (pm ptrTo (imapL Q)))) := by rw [Heap.get_set_ne _ _ (fun e => h.ne e.symm)]; exact hmn
        have hne1 : ¬ r0 = s := fun e => h.ne e.symm
        have hi := iget_imapL f.rise hq
        have hdel : ∀ H, delI x.ino .i64 r0 (imap .i64 (pm ptrTo (imapL Q))) H = some (.undef, H.set r0 (.map (imap .i64 (idel x.ino (pm ptrTo (imapL Q)))))) := fun H => delI_some (by simp [hi, iget_pm])
        refine walk (both hcn (both hgn (both hmn (both hne1 hdel)))) ?_
        try rw [idel_pm]
        have hD : Upd (fun z => z = s ∨ z = r0 ∨ fpI (x, p) z) H2 ((H4.set s (.cells [.map (some r0), .int .i64 next, .int .i64 many, .int .i64 blocks, .int .i64 (used - x.Has.count true)] 74 true false)).set r0 (.map (imap .i64 (pm ptrTo (idel x.ino (imapL Q)))))) :=
          ((hun.mono fun z _ hz => hz.elim .inl fun g => .inr (.inr g)).set _ (by omega) fun _ => .inl rfl).set _ (by simp; omega) fun _ => .inr (.inl rfl)
        refine .inr (.inr ⟨h0, g1, g2, rfl, h.gone hw hq f.rise ?_ (Heap.get_set_same _ _ _) hD, hD.mono fun z _ hz => ?_⟩)
        · rw [Heap.get_set_ne _ _ h.ne]
          exact Heap.get_set_same _ _ _
        · rcases hz with rfl | rfl | hz
          · exact .inl rfl
          · exact .inr (.inl rfl)
          · exact hfS z hz
      · refine walk (both hcn (both g1 g2)) ?_
        refine .inr (.inl ⟨h0, fun ⟨_, e⟩ => g2 e, rfl, h.turn hw hq hgn hun hI3 rfl rfl fun z hz => .inl hz, hun.mono fun z _ hz => hz.elim .inl (hfS z)⟩)
    · refine walk (both hcn g1) ?_
      refine .inr (.inl ⟨h0, fun ⟨e, _⟩ => g1 e, rfl, h.turn hw hq hgn hun hI3 rfl rfl fun z hz => .inl hz, hun.mono fun z _ hz => hz.elim .inl (hfS z)⟩)
theorem less54_yes (h : StoR H s r0 Q next many blocks used) (hw : Wf H) (f : Fine (nds Q) next many blocks c) (hq : Q[i]? = some (x, p)) (hu : 0 ≤ used ∧ used ≤ 4096) : Cl Try.prog pr06 52 [.ptr (some (s, 0)), .int .i64 x.ino, .func (.func 54) [] []] H fun v H' =>
    LessR H H' s r0 Q next many blocks used i x { x with holds := x.holds - 1 } p x.holds v := by
  have hl := f.ln x (List.mem_of_getElem? (nds_get hq))
  have hcc := f.cc
  have hI := h.ino i _ hq
  have hc := hI.g
  have hg := h.g
  have hm := h.m
  obtain ⟨o1, o2⟩ := h.off i _ hq
  have ns : p.blk ≠ s := fun e => o1 (.inl e.symm)
  have nr : p.blk ≠ r0 := fun e => o2 (.inl e.symm)
  have hbl := hw.lt hc
  have hsl := hw.lt hg
  have hrl := hw.lt hm
  have hI1 : InoR (H.set p.blk (cellI { x with holds := x.holds - 1 } p)) { x with holds := x.holds - 1 } p := hI.put rfl rfl rfl
  have hB := (f.by' x (List.mem_of_getElem? (nds_get hq)))
  have hcnt : x.Has.count true ≤ x.Has.length := List.count_le_length
  have hfS : ∀ z, fpI (x, p) z → footS s r0 Q z := fun z hz => .inr (.inr ⟨i, _, hq, hz⟩)
  simp only [cellI] at hc
  refine Cl.enter Try.func52 rfl rfl Try.ntmps52 (by simp) ?_
  refine walk none0 ?_
  refine (get36_yes h f hq).mono fun v H1 _ ⟨ea, eb⟩ => ?_
  subst ea; subst eb
  refine walk none0 ?_
  refine (fld54_ok _ _ 82 _ hc rfl).mono fun v H2 _ ⟨ea, eb⟩ => ?_
  subst ea; subst eb
  by_cases h0 : x.holds = 0
  · refine walk (both hc h0) ?_
    exact .inl ⟨h0, rfl, rfl⟩
  · refine walk (both hc h0) ?_
    obtain ⟨H3, e3⟩ : ∃ H3, H3 = H2.set p.blk (.cells [.int .i64 x.kind, .int .i64 x.links, .int .i64 (x.holds - 1), .ptr (fileP x p), .ptr (dirP x p), .str x.tgt] 82 true false) := ⟨_, rfl⟩
    have hI3 : InoR H3 { x with holds := x.holds - 1 } p := by rw [e3]; exact hI1
    have hcn : H3.get p.blk = some (.cells [.int .i64 x.kind, .int .i64 x.links, .int .i64 (x.holds - 1), .ptr (fileP x p), .ptr (dirP x p), .str x.tgt] 82 true false) := by rw [e3]; exact Heap.get_set_same _ _ _
    have hgn : H3.get s = some (.cells [.map (some r0), .int .i64 next, .int .i64 many, .int .i64 blocks, .int .i64 used] 74 true false) := by rw [e3, Heap.get_set_ne _ _ (fun e => ns e.symm)]; exact hg
    have hmn : H3.get r0 = some (.map (imap .i64 (pm ptrTo (imapL Q)))) := by rw [e3, Heap.get_set_ne _ _ (fun e => nr e.symm)]; exact hm
    have hun : Upd (fun z => z = s ∨ fpI (x, p) z) H2 H3 := by rw [e3]; exact Upd.rfl.set _ hbl fun _ => .inr (.inl rfl)
    have hnn : H3.next = H2.next := by rw [e3]; simp
    rw [← e3]
    clear e3
    have hbk : Cl Try.prog pr06 39 [.ptr (fileP x p)] H3 fun v H' => v = .int .i64 (x.Has.count true) ∧ H' = H3 := by
      have e := blocksI hI3
      exact e
    by_cases g1 : x.links = 0
    · by_cases g2 : (x.holds - 1) = 0
      · refine walk (both hcn (both g1 g2)) ?_
        refine Wq.regionM [(4, 0), (5, 0), (6, 0), (7, 0), (8, 0), (0, 0), (1, 0), (2, 0), (3, 2), (9, 0), (10, 0), (11, 0), (12, 0)] (by kernel_rfl) ?_
        refine mwalk (both hcn hgn) ?_
        refine hbk.mono fun v H4 _ ⟨ea, eb⟩ => ?_
        subst ea; subst eb
        refine mwalk (both hcn hgn) ?_
        have hm4 : (H4.set s (.cells [.map (some r0), .int .i64 next, .int .i64 many, .int .i64 blocks, .int .i64 (used - x.Has.count true)] 74 true false)).get r0 = some (.map (imap .i64 (pm ptrTo (imapL Q)))) := by rw [Heap.get_set_ne _ _ (fun e => h.ne e.symm)]; exact hmn
        have hne1 : ¬ r0 = s := fun e => h.ne e.symm
        have hi := iget_imapL f.rise hq
        have hdel : ∀ H, delI x.ino .i64 r0 (imap .i64 (pm ptrTo (imapL Q))) H = some (.undef, H.set r0 (.map (imap .i64 (idel x.ino (pm ptrTo (imapL Q)))))) := fun H => delI_some (by simp [hi, iget_pm])
        refine walk (both hcn (both hgn (both hmn (both hne1 hdel)))) ?_
        try rw [idel_pm]
        have hD : Upd (fun z => z = s ∨ z = r0 ∨ fpI (x, p) z) H2 ((H4.set s (.cells [.map (some r0), .int .i64 next, .int .i64 many, .int .i64 blocks, .int .i64 (used - x.Has.count true)] 74 true false)).set r0 (.map (imap .i64 (pm ptrTo (idel x.ino (imapL Q)))))) :=
          ((hun.mono fun z _ hz => hz.elim .inl fun g => .inr (.inr g)).set _ (by omega) fun _ => .inl rfl).set _ (by simp; omega) fun _ => .inr (.inl rfl)
        refine .inr (.inr ⟨h0, g1, g2, rfl, h.gone hw hq f.rise ?_ (Heap.get_set_same _ _ _) hD, hD.mono fun z _ hz => ?_⟩)
        · rw [Heap.get_set_ne _ _ h.ne]
          exact Heap.get_set_same _ _ _
        · rcases hz with rfl | rfl | hz
          · exact .inl rfl
          · exact .inr (.inl rfl)
          · exact hfS z hz
      · refine walk (both hcn (both g1 g2)) ?_
        refine .inr (.inl ⟨h0, fun ⟨_, e⟩ => g2 e, rfl, h.turn hw hq hgn hun hI3 rfl rfl fun z hz => .inl hz, hun.mono fun z _ hz => hz.elim .inl (hfS z)⟩)
    · refine walk (both hcn g1) ?_
      refine .inr (.inl ⟨h0, fun ⟨e, _⟩ => g1 e, rfl, h.turn hw hq hgn hun hI3 rfl rfl fun z hz => .inl hz, hun.mono fun z _ hz => hz.elim .inl (hfS z)⟩)
theorem Unlink24_no (h : StoR H s r0 Q next many blocks used) {n : Int} (hn : ∀ x ∈ nds Q, x.ino ≠ n) : Cl Try.prog pr06 24 [.ptr (some (s, 0)), .int .i64 n] H fun v H' => v = .int .i64 2 ∧ H' = H := by
  refine Cl.enter Try.func24 rfl rfl Try.ntmps24 (by simp) ?_
  refine walk none0 ?_
  refine (less52_no h _ hn).mono fun v H1 _ ⟨ea, eb⟩ => ?_
  subst ea; subst eb
  refine walk none0 ?_
  exact ⟨rfl, rfl⟩
theorem Release26_no (h : StoR H s r0 Q next many blocks used) {n : Int} (hn : ∀ x ∈ nds Q, x.ino ≠ n) : Cl Try.prog pr06 26 [.ptr (some (s, 0)), .int .i64 n] H fun v H' => v = .int .i64 2 ∧ H' = H := by
  refine Cl.enter Try.func26 rfl rfl Try.ntmps26 (by simp) ?_
  refine walk none0 ?_
  refine (less52_no h _ hn).mono fun v H1 _ ⟨ea, eb⟩ => ?_
  subst ea; subst eb
  refine walk none0 ?_
  exact ⟨rfl, rfl⟩
theorem Unlink24_yes (h : StoR H s r0 Q next many blocks used) (hw : Wf H) (f : Fine (nds Q) next many blocks c) (hq : Q[i]? = some (x, p)) (hu : 0 ≤ used ∧ used ≤ 4096) : Cl Try.prog pr06 24 [.ptr (some (s, 0)), .int .i64 x.ino] H fun v H' =>
    LessR H H' s r0 Q next many blocks used i x { x with links := x.links - 1 } p x.links v := by
  refine Cl.enter Try.func24 rfl rfl Try.ntmps24 (by simp) ?_
  refine walk none0 ?_
  refine (less53_yes h hw f hq hu).mono fun v H1 _ hL => ?_
  refine walk none0 ?_
  exact hL
theorem Release26_yes (h : StoR H s r0 Q next many blocks used) (hw : Wf H) (f : Fine (nds Q) next many blocks c) (hq : Q[i]? = some (x, p)) (hu : 0 ≤ used ∧ used ≤ 4096) : Cl Try.prog pr06 26 [.ptr (some (s, 0)), .int .i64 x.ino] H fun v H' =>
    LessR H H' s r0 Q next many blocks used i x { x with holds := x.holds - 1 } p x.holds v := by
  refine Cl.enter Try.func26 rfl rfl Try.ntmps26 (by simp) ?_
  refine walk none0 ?_
  refine (less54_yes h hw f hq hu).mono fun v H1 _ hL => ?_
  refine walk none0 ?_
  exact hL
end
end Go.Abs

/- Chapter 06: what is told of a store, walked. -/
namespace Go.Abs
open Go.Proofs
set_option maxRecDepth 100000
set_option linter.unusedVariables false
set_option linter.unusedSimpArgs false

theorem lt_step {p : Nat → Prop} {i : Nat} (h : ∀ j < i, p j) (hi : p i) : ∀ j < i + 1, p j := fun j hj => by
  rcases Nat.lt_or_ge j i with h' | h'
  · exact h j h'
  · obtain rfl : j = i := by omega
    exact hi
theorem nums32_ok {H : Heap} {v w : AV} {l m : List Int} (h : Is H v l) (h' : Is H w m) (hL : l.length ≤ 100000) : Cl Try.prog pr06 40 [v, w] H fun r H' => r = .bool (decide (l = m)) ∧ H' = H := by
  obtain ⟨va, vc, vx, rfl, hvc, hvx⟩ := h.form
  obtain ⟨wa, wc, wx, rfl, hwc, hwx⟩ := h'.form
  refine Cl.enter Try.func40 rfl rfl Try.ntmps40 (by simp) ?_
  by_cases hlen : l.length = m.length
  · have hlenI : (l.length : Int) = m.length := by omega
    refine walk hlenI ?_
    refine Wq.loop (fun k e H' => ∃ i : Nat, i ≤ l.length ∧ k = l.length - i ∧ H' = H ∧ e 0 = .slice va l.length vc vx ∧ e 1 = .slice wa m.length wc wx ∧ e 5 = .int .i64 i ∧ ∀ j < i, l[j]? = m[j]?) l.length ?_ ?_
    · exact ⟨0, by omega, by omega, rfl, by simp, by simp, by simp, fun j hj => by omega⟩
    · rintro k e H' ⟨i, hi, rfl, rfl, g0, g1, g5, hlo⟩
      by_cases hlt : i < l.length
      · have hlt' : i < m.length := by omega
        obtain ⟨x, hx⟩ := geti_lt hlt
        obtain ⟨y, hy⟩ := geti_lt hlt'
        obtain ⟨b, o, cc, t, w, mk, rfl, _, hb1, hb2, hb3, hb4⟩ := int_at h hx
        obtain ⟨b', o', cc', t', w', mk', rfl, _, hb1', hb2', hb3', hb4'⟩ := int_at h' hy
        by_cases hxy : x = y
        · subst hxy
          refine walk (both g0 (both g1 (both g5 hlt))) ?_
          refine Wq.regionD [0, 1, 2, 3, 4, 5, 6, 7, 8] (by kernel_rfl) ?_
          refine walk (both g0 (both g1 (both g5 (both hlt (both hlt' (both hb2 (both hb3 (both hb4 (both hb2' (both hb3' hb4')))))))))) ?_
          exact Roundq.normal (l.length - (i + 1)) (by omega) ⟨i + 1, by omega, rfl, rfl, by simp [g0], by simp [g1], by simp, lt_step hlo (by rw [hx, hy])⟩
        · have hne : l ≠ m := by rintro rfl; rw [hx] at hy; injection hy with hy; exact hxy hy
          refine walk (both g0 (both g1 (both g5 hlt))) ?_
          refine Wq.regionD [0, 1, 2, 3, 4, 5, 6, 7, 8] (by kernel_rfl) ?_
          refine walk (both g0 (both g1 (both g5 (both hlt (both hlt' (both hb2 (both hb3 (both hb4 (both hb2' (both hb3' (both hb4' hxy))))))))))) ?_
          exact ⟨by rw [decide_eq_false hne], rfl⟩
      · obtain rfl : i = l.length := by omega
        have heq : l = m := by
          apply List.ext_getElem? 
          intro j
          rcases Nat.lt_or_ge j l.length with h1 | h1
          · exact hlo j h1
          · rw [List.getElem?_eq_none h1, List.getElem?_eq_none (by omega)]
        refine walk (both g0 (both g1 g5)) ?_
        exact ⟨by rw [decide_eq_true heq], rfl⟩
  · have hlenI : ¬ (l.length : Int) = m.length := by omega
    have hne : l ≠ m := by rintro rfl; exact hlen rfl
    refine walk hlenI ?_
    exact ⟨by rw [decide_eq_false hne], rfl⟩

section
variable {H : Heap} {s r0 : Nat} {Q : List (Nd × Ph)} {next many blocks used : Int} {c : Nat} {i : Nat} {x : Nd} {p : Ph}
def statT (x : Nd) : AV := .agg [.int .i64 x.kind, .int .i64 (x.B.length + x.tgt.length), .int .i64 x.links, .int .i64 x.holds, .int .i64 (x.Has.count true)]
def stat0 : AV := .agg [.int .i64 0, .int .i64 0, .int .i64 0, .int .i64 0, .int .i64 0]
theorem Stat12_no (h : StoR H s r0 Q next many blocks used) (hw : Wf H) {n : Int} (hn : ∀ x ∈ nds Q, x.ino ≠ n) : Cl Try.prog pr06 12 [.ptr (some (s, 0)), .int .i64 n] H fun v H' => v = .tuple [stat0, .int .i64 2] ∧ Keep H H' := by
  have gT : (H.push (.cells [.int .i64 0, .int .i64 0, .int .i64 0, .int .i64 0, .int .i64 0] 41 true false)).get H.next = some (.cells [.int .i64 0, .int .i64 0, .int .i64 0, .int .i64 0, .int .i64 0] 41 true false) := by simp
  have nT : H.next < (H.push (.cells [.int .i64 0, .int .i64 0, .int .i64 0, .int .i64 0, .int .i64 0] 41 true false)).next := by simp
  have kT : Keep H (H.push (.cells [.int .i64 0, .int .i64 0, .int .i64 0, .int .i64 0, .int .i64 0] 41 true false)) := Upd.rfl.push _
  refine Cl.enter Try.func12 rfl rfl Try.ntmps12 (by simp) ?_
  refine walk none0 ?_
  generalize H.push (.cells [.int .i64 0, .int .i64 0, .int .i64 0, .int .i64 0, .int .i64 0] 41 true false) = H1 at *
  refine (get36_no (h.kept hw kT) hn).mono fun v H2 _ ⟨ea, eb⟩ => ?_
  subst ea; subst eb
  refine walk gT ?_
  exact ⟨rfl, kT.set _ nT (by omega)⟩
theorem Stat12_yes (h : StoR H s r0 Q next many blocks used) (hw : Wf H) (f : Fine (nds Q) next many blocks c) (hq : Q[i]? = some (x, p)) : Cl Try.prog pr06 12 [.ptr (some (s, 0)), .int .i64 x.ino] H fun v H' => v = .tuple [statT x, .int .i64 0] ∧ Keep H H' := by
  have gT : (H.push (.cells [.int .i64 0, .int .i64 0, .int .i64 0, .int .i64 0, .int .i64 0] 41 true false)).get H.next = some (.cells [.int .i64 0, .int .i64 0, .int .i64 0, .int .i64 0, .int .i64 0] 41 true false) := by simp
  have nT : H.next < (H.push (.cells [.int .i64 0, .int .i64 0, .int .i64 0, .int .i64 0, .int .i64 0] 41 true false)).next := by simp
  have kT : Keep H (H.push (.cells [.int .i64 0, .int .i64 0, .int .i64 0, .int .i64 0, .int .i64 0] 41 true false)) := Upd.rfl.push _
  have hm := List.mem_of_getElem? (nds_get hq)
  have hB := f.by' x hm
  have ht := f.tg x hm
  refine Cl.enter Try.func12 rfl rfl Try.ntmps12 (by simp) ?_
  refine walk none0 ?_
  generalize H.push (.cells [.int .i64 0, .int .i64 0, .int .i64 0, .int .i64 0, .int .i64 0] 41 true false) = H1 at *
  have h1 := h.kept hw kT
  refine (get36_yes h1 f hq).mono fun v H2 _ ⟨ea, eb⟩ => ?_
  subst ea; subst eb
  have hI := h1.ino i _ hq
  have hc := hI.g
  simp only [cellI] at hc
  have c1 := sizeI hI
  have c2 := lenI hI
  have c3 := blocksI hI
  refine walk none0 ?_
  refine Wq.regionM [(4, 0), (5, 0), (6, 0), (7, 0), (8, 0), (9, 0), (10, 0), (11, 0), (12, 2), (13, 0), (29, 0), (30, 0), (31, 0), (32, 3), (33, 0), (0, 0), (1, 0), (2, 0), (3, 4), (14, 0), (15, 0), (16, 0), (17, 0), (18, 4), (19, 0), (20, 0), (21, 0), (22, 0), (23, 0), (24, 4), (25, 0), (26, 0), (27, 0), (28, 4), (34, 0), (35, 0), (36, 0)] (by kernel_rfl) ?_
  refine mwalk hc ?_
  refine c1.mono fun v H3 _ ⟨ea, eb⟩ => ?_
  subst ea; subst eb
  refine mwalk hc ?_
  refine c2.mono fun v H3 _ ⟨ea, eb⟩ => ?_
  subst ea; subst eb
  refine mwalk hc ?_
  refine c3.mono fun v H3 _ ⟨ea, eb⟩ => ?_
  subst ea; subst eb
  refine mwalk (both hc gT) ?_
  refine walk gT ?_
  exact ⟨by simp [statT], kT.set _ nT (by omega)⟩
theorem Room8_ok (h : StoR H s r0 Q next many blocks used) (hq : (Q.length : Int) ≤ many) (hm : 0 ≤ many ∧ many ≤ 256) (hb : 0 ≤ blocks ∧ blocks ≤ 4096) (hu : 0 ≤ used ∧ used ≤ 4096) : Cl Try.prog pr06 8 [.ptr (some (s, 0))] H fun v H' => v = .tuple [.int .i64 (many - Q.length), .int .i64 (blocks - used)] ∧ H' = H := by
  have hg := h.g
  have hmm := h.m
  have hlen : (imap .i64 (pm ptrTo (imapL Q))).length = Q.length := by simp [imap_len, pm_len, imapL]
  refine Cl.enter Try.func8 rfl rfl Try.ntmps8 (by simp) ?_
  refine walk hg ?_
  refine Wq.regionD [0, 1, 2, 3, 4, 5, 6, 7, 8, 9, 10, 11, 12, 13, 14, 15, 16, 17, 18, 19, 20] (by kernel_rfl) ?_
  refine walk (both hg (both hmm hlen)) ?_
  exact ⟨by simp, rfl⟩
theorem Room8_nil (H : Heap) : Cl Try.prog pr06 8 [.ptr none] H fun v H' => v = .tuple [.int .i64 0, .int .i64 0] ∧ H' = H := by
  refine Cl.enter Try.func8 rfl rfl Try.ntmps8 (by simp) ?_
  refine walk none0 ?_
  exact ⟨rfl, rfl⟩
theorem Next20_ok (h : StoR H s r0 Q next many blocks used) : Cl Try.prog pr06 20 [.ptr (some (s, 0))] H fun v H' => v = .int .i64 next ∧ H' = H := by
  have hg := h.g
  refine Cl.enter Try.func20 rfl rfl Try.ntmps20 (by simp) ?_
  refine walk hg ?_
  exact ⟨rfl, rfl⟩
theorem keysI_imapL : ∀ {Q : List (Nd × Ph)}, (∀ x ∈ nds Q, 1 ≤ x.ino ∧ x.ino < 2000) → keysI (imap .i64 (pm ptrTo (imapL Q))) = some ((nds Q).map (·.ino))
  | [], _ => rfl
  | q :: Q, h => by
    have h1 := h q.1 (by simp [nds])
    have ih := keysI_imapL (Q := Q) fun x hx => h x (by simp [nds] at hx ⊢; exact .inr hx)
    simp only [imapL, imap, pm, nds, List.map_cons] at ih ⊢
    unfold keysI
    rw [if_pos (by omega), ih]
theorem rise_pair {N : List Nd} (h : ∀ (j k : Nat) (a b : Nd), j < k → N[j]? = some a → N[k]? = some b → a.ino < b.ino) : (N.map (·.ino)).Pairwise (· < ·) := by
  rw [List.pairwise_iff_getElem]
  intro j k hj hk hjk
  simp at hj hk
  simp only [List.getElem_map]
  exact h j k _ _ hjk (by simp [hj]) (by simp [hk])
theorem All11_ok (h : StoR H s r0 Q next many blocks used) (f : Fine (nds Q) next many blocks c) : Cl Try.prog pr06 11 [.ptr (some (s, 0))] H fun v H' => Keep H H' ∧ Is H' v ((nds Q).map (·.ino)) := by
  have hp := rise_pair f.rise
  have hs : sortI ((nds Q).map (·.ino)) = (nds Q).map (·.ino) := sortI_id (hp.imp fun h => by omega)
  have hnd : ((nds Q).map (·.ino)).Nodup := hp.imp fun h => by omega
  have hk : keysI (imap .i64 (pm ptrTo (imapL Q))) = some ((nds Q).map (·.ino)) := keysI_imapL fun x hx => by
    have := f.bd x hx
    have := f.nx
    have := f.cc
    omega
  have hl : ((nds Q).map (·.ino)).length ≤ 100000 := by
    have := f.few
    have := f.mb
    simp
    omega
  by_cases h0 : (nds Q).map (·.ino) = []
  · refine Cl.prim (v := .slice none 0 0 none) (H' := H) (g := allP 3) rfl ?_ ⟨Upd.rfl, ?_⟩
    · simp only [allP, h.g, List.getElem?_cons_zero, h.m, hk]
      rw [if_pos ⟨hnd, hl⟩, if_pos h0]
    · rw [h0]
      exact Sl.nil
  · refine Cl.prim (v := .slice (some (H.next, 0)) ((nds Q).map (·.ino)).length ((nds Q).map (·.ino)).length (some 1)) (H' := H.push (.cells (ints ((nds Q).map (·.ino))) 3 true false)) (g := allP 3) rfl ?_ ⟨Upd.rfl.push _, ?_⟩
    · simp only [allP, h.g, List.getElem?_cons_zero, h.m, hk]
      rw [if_pos ⟨hnd, hl⟩, if_neg h0, hs]
    · unfold Is Sl
      exact ⟨by simp, .inr ⟨H.next, 0, _, _, rfl, Nat.le_refl _, .inr rfl, fun _ => ⟨by simp, _, _, _, _, by rw [Heap.get_push, if_pos rfl], by simp, by simp [List.take_of_length_le]⟩⟩⟩
theorem Has17_no (h : StoR H s r0 Q next many blocks used) {n k : Int} (hn : ∀ x ∈ nds Q, x.ino ≠ n) : Cl Try.prog pr06 17 [.ptr (some (s, 0)), .int .i64 n, .int .i64 k] H fun v H' => v = .bool false ∧ H' = H := by
  refine Cl.enter Try.func17 rfl rfl Try.ntmps17 (by simp) ?_
  refine walk none0 ?_
  refine (file44_no h hn).mono fun v H1 _ ⟨ea, eb⟩ => ?_
  subst ea; subst eb
  refine walk none0 ?_
  exact ⟨rfl, rfl⟩
theorem Has17_yes (h : StoR H s r0 Q next many blocks used) (f : Fine (nds Q) next many blocks c) (hq : Q[i]? = some (x, p)) (k : Int) : Cl Try.prog pr06 17 [.ptr (some (s, 0)), .int .i64 x.ino, .int .i64 k] H fun v H' => v = .bool (hasF x.Has k) ∧ H' = H := by
  have hI := h.ino i _ hq
  refine Cl.enter Try.func17 rfl rfl Try.ntmps17 (by simp) ?_
  refine walk none0 ?_
  refine (file44_yes h f hq).mono fun v H1 _ ⟨ea, eb⟩ => ?_
  subst ea; subst eb
  by_cases hk : x.kind = 1
  · obtain ⟨fr, a⟩ := hI.file hk
    rw [show fileP x p = some (p.p, 0) from if_pos hk, if_pos hk]
    refine walk none0 ?_
    refine (has_some _ _ _ k _ H1 fr.p0 fr.r0).mono fun v H2 _ ⟨ea, eb⟩ => ?_
    subst ea; subst eb
    refine walk none0 ?_
    exact ⟨by rw [a.dom k], rfl⟩
  · rw [show fileP x p = none from if_neg hk, if_neg hk]
    have e0 : hasF x.Has k = false := by rw [(hI.nofile hk).2]; simp [hasF]
    refine walk none0 ?_
    exact ⟨by rw [e0], rfl⟩
end
end Go.Abs
