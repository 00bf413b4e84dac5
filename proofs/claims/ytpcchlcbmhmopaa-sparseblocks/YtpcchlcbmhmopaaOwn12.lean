/- Texts on this program, joined. -/
import Derived.Test.YtpcchlcbmhmopaaOwn10
import Derived.Test.YtpcchlcbmhmopaaKit08
import Derived.Test.YtpcchlcbmhmopaaKit11
import Derived.Test.YtpcchlcbmhmopaaKit06

/- Chapter 04: small functions, walked. -/
namespace Go.Abs
open Go.Proofs
set_option maxRecDepth 100000
set_option linter.unusedVariables false
set_option linter.unusedSimpArgs false

def pr04 : Prims := closedPrims [(14, .bool true)]

theorem size_some (p r : Nat) (size : Int) (H : Heap) (h : H.get p = some (.cells [.map (some r), .int .i64 size] 51 true false)) :
    Cl Try.prog pr04 19 [.ptr (some (p, 0))] H fun v H' => v = .int .i64 size ∧ H' = H := by
  refine Cl.enter Try.func19 rfl rfl Try.ntmps19 (by simp) ?_
  refine walk h ?_
  exact ⟨rfl, rfl⟩

theorem has_some (p r : Nat) (size n : Int) (l : List (Int × Nat)) (H : Heap) (h : H.get p = some (.cells [.map (some r), .int .i64 size] 51 true false)) (hr : H.get r = some (.map (imap .i64 (pm ptrTo l)))) :
    Cl Try.prog pr04 20 [.ptr (some (p, 0)), .int .i64 n] H fun v H' => v = .bool (iget n l).isSome ∧ H' = H := by
  refine Cl.enter Try.func20 rfl rfl Try.ntmps20 (by simp) ?_
  refine walk (both h hr) ?_
  simp

theorem blocks_some (p r : Nat) (size : Int) (l : List (Int × Nat)) (H : Heap) (h : H.get p = some (.cells [.map (some r), .int .i64 size] 51 true false)) (hr : H.get r = some (.map (imap .i64 (pm ptrTo l)))) :
    Cl Try.prog pr04 18 [.ptr (some (p, 0))] H fun v H' => v = .int .i64 l.length ∧ H' = H := by
  refine Cl.enter Try.func18 rfl rfl Try.ntmps18 (by simp) ?_
  refine walk (both h hr) ?_
  exact ⟨rfl, rfl⟩

/-! ## the blocks that bytes lie in -/
def spansL : Nat → Int → Int → List (Int × Int × Int)
  | 0, _, _ => []
  | k + 1, off, n => if n ≤ 0 then [] else
    (off / 64, off % 64, off % 64 + min n (64 - off % 64)) :: spansL k (off + min n (64 - off % 64)) (n - min n (64 - off % 64))
def spans (off n : Int) : List (Int × Int × Int) := spansL n.toNat off n
theorem spansL_fuel : ∀ (k : Nat) (off n : Int), 0 ≤ off → n ≤ k → spansL k off n = spans off n := by
  intro k
  induction k using Nat.strongRecOn with
  | ind k ih =>
    intro off n ho hk
    unfold spans
    by_cases hn : n ≤ 0
    · have : n.toNat = 0 := by omega
      rw [this]
      cases k with
      | zero => rfl
      | succ k => simp [spansL, hn]
    · obtain ⟨j, hj⟩ : ∃ j, n.toNat = j + 1 := ⟨n.toNat - 1, by omega⟩
      cases k with
      | zero => omega
      | succ k =>
        rw [hj]
        simp only [spansL, if_neg hn]
        congr 1
        have h1 : 0 ≤ off % 64 ∧ off % 64 < 64 := ⟨by omega, by omega⟩
        rw [ih k (by omega) _ _ (by omega) (by omega)]
        by_cases hjk : j < k + 1
        · rw [ih j (by omega) _ _ (by omega) (by omega)]
        · omega
theorem spans_nil {off n : Int} (h : n ≤ 0) : spans off n = [] := by
  have : n.toNat = 0 := by omega
  simp [spans, this, spansL]
theorem spans_pos {off n : Int} (ho : 0 ≤ off) (h : 0 < n) : spans off n = (off / 64, off % 64, off % 64 + min n (64 - off % 64)) :: spans (off + min n (64 - off % 64)) (n - min n (64 - off % 64)) := by
  obtain ⟨j, hj⟩ : ∃ j, n.toNat = j + 1 := ⟨n.toNat - 1, by omega⟩
  conv => lhs; unfold spans
  rw [hj]
  simp only [spansL, if_neg (by omega : ¬ n ≤ 0)]
  congr 1
  exact spansL_fuel _ _ _ (by omega) (by omega)
def encSpan (x : Int × Int × Int) : List AV := [.int .i64 x.1, .int .i64 x.2.1, .int .i64 x.2.2]

theorem spans_ok (off n : Int) (H : Heap) (ho : 0 ≤ off) (hb : off + n ≤ 100000) :
    Cl Try.prog pr04 23 [.int .i64 off, .int .i64 n] H fun v H' => Fresh H H' 58 3 v (spans off n).length (flat encSpan (spans off n)) := by
  refine Cl.enter Try.func23 rfl rfl Try.ntmps23 (by simp) ?_
  refine walk none0 ?_
  refine Wq.loop (fun m e H' => ∃ (o' n' : Int) (acc : List (Int × Int × Int)) (w : AV), e 0 = .int .i64 o' ∧ e 1 = .int .i64 n' ∧ e 5 = w ∧ 0 ≤ o' ∧ o' + n' ≤ 100000 ∧ m = n'.toNat ∧
    acc ++ spans o' n' = spans off n ∧ acc.length ≤ o' ∧ Fresh H H' 58 3 w acc.length (flat encSpan acc)) n.toNat ?_ ?_
  · exact ⟨off, n, [], .slice none 0 0 none, by simp, by simp, by simp, ho, hb, rfl, rfl, by simpa using ho, Fresh.nil Upd.rfl⟩
  · rintro m e H' ⟨o', n', acc, w, h0, h1, h5, ho', hb', rfl, hacc, hal, hf⟩
    refine walk (both h0 (both h1 h5)) ?_
    by_cases hpos : 0 < n'
    · have hq : 0 ≤ o' % 64 ∧ o' % 64 < 64 := ⟨by omega, by omega⟩
      refine walk (both h0 (both h1 h5)) ?_
      refine Oq.append (own := hf.own.push _) (new := encSpan (o' / 64, o' % 64, o' % 64 + min n' (64 - o' % 64))) (m := 1) (by simp (disch := omega) [h0, h1, h5, encSpan, -getElem?_pos, wrapI64, tdivN, tmodN, ipos, ineg, dpos, dneg, slc_l, slc_h, slc_lh, slc_hm, slc_lhm, slc_0, slcR_some, slcR_none, cutS_ok, cutA_ok, byteAt_ok]; first | done | (repeat' (first | rfl | apply And.intro))) ⟨_, rfl, by simp; first | done | (repeat' (first | rfl | apply And.intro))⟩ rfl (by kernel_rfl) (by kernel_rfl) (by refine ⟨by simp, ?_⟩; simp (disch := omega) [srcCells, cellsAt, h0, h1, h5, encSpan, -getElem?_pos, wrapI64, tdivN, tmodN, ipos, ineg, dpos, dneg, slc_l, slc_h, slc_lh, slc_hm, slc_lhm, slc_0, slcR_some, slcR_none, cutS_ok, cutA_ok, byteAt_ok]; first | done | rfl) (by simp [h0, h1, h5, encSpan]) (by simp [h0, h1, h5, encSpan]) (by omega) (by omega) fun w1 H1 o1 b1 s1 => ?_
      refine walk (both h0 (both h1 h5)) ?_
      refine Roundq.normal (n' - min n' (64 - o' % 64)).toNat (by omega) ⟨o' + min n' (64 - o' % 64), n' - min n' (64 - o' % 64), acc ++ [(o' / 64, o' % 64, o' % 64 + min n' (64 - o' % 64))], w1, by simp, by simp, by simp, by omega, by omega, rfl, ?_, ?_, ?_⟩
      · rw [List.append_assoc, ← hacc, spans_pos ho' hpos]; rfl
      · simp; omega
      · rw [flat_app, flat_one, List.length_append]; exact (hf.push _).app o1 b1 s1
    · have hn0 : n' ≤ 0 := by omega
      rw [spans_nil hn0, List.append_nil] at hacc
      refine walk (both h0 (both h1 h5)) ?_
      subst hacc
      exact hf
end Go.Abs

/- Chapter 04: a file of the program's, need and read. -/
namespace Go.Abs
open Go.Proofs
set_option maxRecDepth 100000
set_option linter.unusedVariables false
set_option linter.unusedSimpArgs false

/-! ## spans, told by their places -/
def cntOf (off n : Int) : Nat := ((off + n + 63) / 64 - off / 64).toNat
theorem spansL_get : ∀ (f : Nat) (off n : Int), 0 ≤ off → 0 < n → n ≤ f → (spansL f off n).length = cntOf off n ∧
    ∀ i : Nat, i < cntOf off n → (spansL f off n)[i]? = some (off / 64 + i, max off (64 * (off / 64 + i)) - 64 * (off / 64 + i), min (off + n) (64 * (off / 64 + i) + 64) - 64 * (off / 64 + i))
  | 0, off, n, ho, hn, hk => by omega
  | f + 1, off, n, ho, hn, hk => by
    unfold spansL
    rw [if_neg (by omega)]
    have hq : 0 ≤ off % 64 ∧ off % 64 < 64 := ⟨by omega, by omega⟩
    have hd : off = 64 * (off / 64) + off % 64 := by omega
    by_cases h : n - min n (64 - off % 64) ≤ 0
    · have e : spansL f (off + min n (64 - off % 64)) (n - min n (64 - off % 64)) = [] := by
        rw [spansL_fuel f _ _ (by omega) (by omega), spans_nil h]
      have c1 : cntOf off n = 1 := by unfold cntOf; omega
      rw [e, c1]
      refine ⟨rfl, fun i hi => ?_⟩
      have : i = 0 := by omega
      subst this
      simp only [List.getElem?_cons_zero, Option.some.injEq, Prod.mk.injEq]
      refine ⟨by omega, by omega, by omega⟩
    · obtain ⟨h1, h2⟩ := spansL_get f (off + min n (64 - off % 64)) (n - min n (64 - off % 64)) (by omega) (by omega) (by omega)
      have c1 : cntOf off n = cntOf (off + min n (64 - off % 64)) (n - min n (64 - off % 64)) + 1 := by unfold cntOf; omega
      refine ⟨by simp [h1, c1], fun i hi => ?_⟩
      cases i with
      | zero =>
        simp only [List.getElem?_cons_zero, Option.some.injEq, Prod.mk.injEq]
        refine ⟨by omega, by omega, by omega⟩
      | succ i =>
        rw [List.getElem?_cons_succ, h2 i (by omega)]
        have e1 : (off + min n (64 - off % 64)) / 64 = off / 64 + 1 := by omega
        simp only [Option.some.injEq, Prod.mk.injEq]
        rw [e1]
        refine ⟨by omega, by omega, by omega⟩
theorem spans_len {off n : Int} (ho : 0 ≤ off) (hn : 0 < n) : (spans off n).length = cntOf off n := (spansL_get _ off n ho hn (by omega)).1
theorem spans_get {off n : Int} (ho : 0 ≤ off) (hn : 0 < n) {i : Nat} (hi : i < cntOf off n) : (spans off n)[i]? = some (off / 64 + i, max off (64 * (off / 64 + i)) - 64 * (off / 64 + i), min (off + n) (64 * (off / 64 + i) + 64) - 64 * (off / 64 + i)) := (spansL_get _ off n ho hn (by omega)).2 i hi

/-! ## a file -/
structure FileR (H : Heap) (p r : Nat) (l : List (Int × Nat)) (bl : Nat → List UInt8) (size : Int) : Prop where
  p0 : H.get p = some (.cells [.map (some r), .int .i64 size] 51 true false)
  r0 : H.get r = some (.map (imap .i64 (pm ptrTo l)))
  once : ionce l
  blk : ∀ k b, (k, b) ∈ l → H.get b = some (.cells (cellsOfBytes (bl b)) 60 true false) ∧ (bl b).length = 64
  inj : ∀ k k' b, (k, b) ∈ l → (k', b) ∈ l → k = k'
def fpF (p r : Nat) (l : List (Int × Nat)) : Nat → Prop := fun b => b = p ∨ b = r ∨ ∃ k, (k, b) ∈ l
theorem FileR.keep {H H' : Heap} {p r : Nat} {l : List (Int × Nat)} {bl : Nat → List UInt8} {size : Int} (h : FileR H p r l bl size) (hg : ∀ b, fpF p r l b → H'.get b = H.get b) : FileR H' p r l bl size :=
  ⟨(hg p (.inl rfl)).trans h.p0, (hg r (.inr (.inl rfl))).trans h.r0, h.once, fun k b hb => ⟨(hg b (.inr (.inr ⟨k, hb⟩))).trans (h.blk k b hb).1, (h.blk k b hb).2⟩, h.inj⟩
theorem FileR.lt {H : Heap} {p r : Nat} {l : List (Int × Nat)} {bl : Nat → List UInt8} {size : Int} (h : FileR H p r l bl size) (hw : Wf H) : ∀ b, fpF p r l b → b < H.next := by
  rintro b (rfl | rfl | ⟨k, hb⟩)
  · exact hw.lt h.p0
  · exact hw.lt h.r0
  · exact hw.lt (h.blk k b hb).1
theorem FileR.upd {H H' : Heap} {p r : Nat} {l : List (Int × Nat)} {bl : Nat → List UInt8} {size : Int} {fp : Nat → Prop} (h : FileR H p r l bl size) (hw : Wf H) (u : Upd fp H H') (hd : ∀ b, fpF p r l b → ¬ fp b) : FileR H' p r l bl size :=
  h.keep fun b hb => u.keep b (h.lt hw b hb) (hd b hb)

/-- The byte at a place: of its block, or 0. -/
def cell (l : List (Int × Nat)) (bl : Nat → List UInt8) (j : Int) : UInt8 := match iget (j / 64) l with
  | some b => (bl b).getD (j % 64).toNat 0
  | none => 0

/-- How many of i blocks from a on are lacking. -/
def lackN (has : Int → Bool) (a : Int) : Nat → Int
  | 0 => 0
  | i + 1 => lackN has a i + if has (a + i) then 0 else 1
theorem lackN_bd (has : Int → Bool) (a : Int) : ∀ i, 0 ≤ lackN has a i ∧ lackN has a i ≤ i
  | 0 => by simp [lackN]
  | i + 1 => by have := lackN_bd has a i; simp only [lackN]; split <;> omega
def needN (has : Int → Bool) (off n : Int) : Int := if off < 0 ∨ n < 1 ∨ off > 65536 ∨ n > 65536 - off then 0 else lackN has (off / 64) (cntOf off n)

theorem need_ok (p r : Nat) (size : Int) (l : List (Int × Nat)) (off n : Int) (hn : -9223372036854775808 ≤ n ∧ n ≤ 9223372036854775807) (hof : -9223372036854775808 ≤ off ∧ off ≤ 9223372036854775807) (H : Heap) (h : H.get p = some (.cells [.map (some r), .int .i64 size] 51 true false)) (hr : H.get r = some (.map (imap .i64 (pm ptrTo l)))) :
    Cl Try.prog pr04 12 [.ptr (some (p, 0)), .int .i64 off, .int .i64 n] H fun v H' => v = .int .i64 (needN (fun k => (iget k l).isSome) off n) ∧ Keep H H' := by
  refine Cl.wf fun hw => ?_
  have hpl := hw.lt h
  have hrl := hw.lt hr
  refine Cl.enter Try.func12 rfl rfl Try.ntmps12 (by simp) ?_
  by_cases hc : off < 0 ∨ n < 1 ∨ off > 65536 ∨ n > 65536 - off
  · have e1 : needN (fun k => (iget k l).isSome) off n = 0 := by unfold needN; rw [if_pos hc]
    rw [e1]
    by_cases c1 : off < 0
    · refine walk none0 ?_
      exact ⟨rfl, Upd.rfl⟩
    by_cases c2 : n < 1
    · refine walk none0 ?_
      exact ⟨rfl, Upd.rfl⟩
    by_cases c3 : off > 65536
    · refine walk none0 ?_
      exact ⟨rfl, Upd.rfl⟩
    refine walk none0 ?_
    exact ⟨rfl, Upd.rfl⟩
  · have e1 : needN (fun k => (iget k l).isSome) off n = lackN (fun k => (iget k l).isSome) (off / 64) (cntOf off n) := by unfold needN; rw [if_neg hc]
    rw [e1]
    have c1 : 0 ≤ off ∧ 0 < n ∧ off + n ≤ 65536 := by omega
    refine walk none0 ?_
    refine (spans_ok off n H (by omega) (by omega)).mono fun v H1 hn1 hf => ?_
    obtain ⟨a, ex, rfl, _⟩ := hf.own.form
    have hlen := spans_len c1.1 c1.2.1
    have hget := fun i => spans_get c1.1 c1.2.1 (i := i)
    have hcb : cntOf off n ≤ 1025 := by unfold cntOf; omega
    rw [hlen] at hf ⊢
    generalize spans off n = L at *
    have h1 := hf.keep.get hpl ▸ h
    have hr1 := hf.keep.get hrl ▸ hr
    refine walk none0 ?_
    refine Wq.loop (fun m e H' => ∃ i : Nat, i ≤ cntOf off n ∧ e 0 = .ptr (some (p, 0)) ∧ e 7 = .int .i64 (lackN (fun k => (iget k l).isSome) (off / 64) i) ∧ e 28 = .slice a (cntOf off n) (cntOf off n) ex ∧ e 29 = .int .i64 (cntOf off n) ∧ e 30 = .int .i64 i ∧ m = cntOf off n - i ∧ Keep H1 H') (cntOf off n) ?_ ?_
    · exact ⟨0, by omega, by simp, by simp [lackN], by simp, by simp, by simp, by omega, Upd.rfl⟩
    · rintro m e H' ⟨i, hi, g0, g7, g28, g29, g30, rfl, hk⟩
      by_cases hlt : i < cntOf off n
      · obtain ⟨b, o, c, t, w, mm, rfl, hb1, hb2, hb3, hb4⟩ := hf.own.sl.at (by omega)
        have hx := hget i hlt
        have hg := hk.get hb1 ▸ hb2
        have hs := sub_take hb4 (i := i * 3) (k := 3) (by omega)
        rw [flat_take (s := 3) (fun _ => rfl) hx] at hs
        simp only [encSpan] at hs
        have hn := hf.keep.next
        have hp' := hk.get (show p < H1.next by omega) ▸ h1
        have hr' := hk.get (show r < H1.next by omega) ▸ hr1
        have hk2 := hk.next
        have hfit : o + i * 3 + 3 ≤ c.length := by omega
        refine walk (both g0 (both g7 (both g28 (both g29 (both g30 (both hg (both hs hfit))))))) ?_
        refine (has_some p r size _ l _ (by simp (disch := omega) [hp', ineg]) (by simp (disch := omega) [hr', ineg])).mono fun v H2 hn2 ⟨e2, e3⟩ => ?_
        subst e2; subst e3
        have hbd := lackN_bd (fun k => (iget k l).isSome) (off / 64) i
        have hstep : lackN (fun k => (iget k l).isSome) (off / 64) (i + 1) = lackN (fun k => (iget k l).isSome) (off / 64) i + if (iget (off / 64 + i) l).isSome then 0 else 1 := rfl
        cases hb : (iget (off / 64 + i) l).isSome with
        | true =>
          rw [hb] at hstep
          refine walk (both g0 (both g7 (both g28 (both g29 (both g30 hb))))) ?_
          refine Roundq.normal (cntOf off n - (i + 1)) (by omega) ⟨i + 1, by omega, ?_⟩
          simp [g0, g7, g28, g29, g30, hstep]
          exact (hk.push _).set _ (by simp) (by omega)
        | false =>
          rw [hb] at hstep
          refine walk (both g0 (both g7 (both g28 (both g29 (both g30 hb))))) ?_
          refine Roundq.normal (cntOf off n - (i + 1)) (by omega) ⟨i + 1, by omega, ?_⟩
          simp [g0, g7, g28, g29, g30, hstep]
          exact (hk.push _).set _ (by simp) (by omega)
      · have : i = cntOf off n := by omega
        subst this
        refine walk (both g0 (both g7 (both g28 (both g29 g30)))) ?_
        exact ⟨rfl, hf.keep.then hk⟩
end Go.Abs

/- Chapter 04: a file of the program's, read. -/
namespace Go.Abs
open Go.Proofs
set_option maxRecDepth 100000
set_option linter.unusedVariables false
set_option linter.unusedSimpArgs false

/-- Bytes from a place on. -/
def rdL (f : Int → UInt8) (off : Int) (m : Nat) : List UInt8 := (List.range m).map fun j => f (off + (j : Nat))
theorem rdL_len (f : Int → UInt8) (off : Int) (m : Nat) : (rdL f off m).length = m := by simp [rdL]
theorem rdL_app (f : Int → UInt8) (off : Int) (a b : Nat) : rdL f off (a + b) = rdL f off a ++ rdL f (off + a) b := by
  simp only [rdL, List.range_add, List.map_append, List.map_map]
  congr 1
  apply List.map_congr_left
  intro j _
  simp only [Function.comp]
  congr 1
  omega
theorem rdL_piece {f : Int → UInt8} {bytes : List UInt8} {k : Int} (hl : bytes.length = 64) (hf : ∀ q : Nat, q < 64 → f (64 * k + q) = bytes.getD q 0) {fr cnt : Nat} (h : fr + cnt ≤ 64) : rdL f (64 * k + fr) cnt = (bytes.drop fr).take cnt := by
  apply List.ext_getElem?
  intro i
  by_cases hi : i < cnt
  · simp only [rdL, List.getElem?_map, List.getElem?_range hi, Option.map_some, List.getElem?_take, if_pos hi, List.getElem?_drop]
    have e : 64 * k + (fr : Int) + (i : Int) = 64 * k + ((fr + i : Nat) : Int) := by omega
    rw [e, hf (fr + i) (by omega)]
    rw [List.getD_eq_getElem?_getD, List.getElem?_eq_getElem (by omega : fr + i < bytes.length)]
    rfl
  · rw [List.getElem?_eq_none (by simp [rdL]; omega), List.getElem?_eq_none (by simp; omega)]

def posOf (off m : Int) (i : Nat) : Int := max off (min (off + m) (64 * (off / 64 + i)))

theorem cell_some {l : List (Int × Nat)} {bl : Nat → List UInt8} {k : Int} {b : Nat} (h : iget k l = some b) (q : Nat) (hq : q < 64) : cell l bl (64 * k + q) = (bl b).getD q 0 := by
  unfold cell
  rw [show (64 * k + (q : Int)) / 64 = k from by omega, show ((64 * k + (q : Int)) % 64).toNat = q from by omega, h]
theorem cell_none {l : List (Int × Nat)} {bl : Nat → List UInt8} {k : Int} (h : iget k l = none) (q : Nat) (hq : q < 64) : cell l bl (64 * k + q) = (zeroB 64).getD q 0 := by
  unfold cell
  rw [show (64 * k + (q : Int)) / 64 = k from by omega, h]
  rw [List.getD_eq_getElem?_getD, zeroB, List.getElem?_replicate, if_pos hq]
  rfl

/-- The blocks that bytes lie in, one by one. -/
theorem spans_facts {off m : Int} (ho : 0 ≤ off) (hm : 0 ≤ m) : posOf off m 0 = off ∧ posOf off m (spans off m).length = off + m ∧ (spans off m).length ≤ m + 1 ∧ ((0 < m → (spans off m).length = cntOf off m)) ∧ ∀ i : Nat, i < (spans off m).length →
    (spans off m)[i]? = some (off / 64 + i, posOf off m i - 64 * (off / 64 + i), posOf off m (i + 1) - 64 * (off / 64 + i)) ∧ 64 * (off / 64 + i) ≤ posOf off m i ∧ posOf off m i < posOf off m (i + 1) ∧ posOf off m (i + 1) ≤ 64 * (off / 64 + i) + 64 ∧ off ≤ posOf off m i ∧ posOf off m (i + 1) ≤ off + m := by
  by_cases h : m = 0
  · subst h
    rw [spans_nil (Int.le_refl 0)]
    refine ⟨by unfold posOf; omega, by unfold posOf; simp; omega, by simp, by simp, ?_⟩
    intro i hi
    simp at hi
  · have hl := spans_len ho (by omega : 0 < m)
    rw [hl]
    refine ⟨by unfold posOf; omega, by unfold posOf cntOf; omega, by unfold cntOf; omega, fun _ => rfl, ?_⟩
    intro i hi
    rw [spans_get ho (by omega) hi]
    unfold cntOf at hi
    unfold posOf
    refine ⟨?_, by omega, by omega, by omega, by omega, by omega⟩
    simp only [Option.some.injEq, Prod.mk.injEq]
    refine ⟨trivial, by omega, by omega⟩

theorem read_no (p r : Nat) (size : Int) (l : List (Int × Nat)) (bl : Nat → List UInt8) (off n : Int) (H : Heap) (h : FileR H p r l bl size) (hc : off < 0 ∨ n < 0 ∨ size ≤ off) :
    Cl Try.prog pr04 10 [.ptr (some (p, 0)), .int .i64 off, .int .i64 n] H fun v H' => v = .slice none 0 0 none ∧ H' = H := by
  refine Cl.enter Try.func10 rfl rfl Try.ntmps10 (by simp) ?_
  by_cases c1 : off < 0
  · refine walk none0 ?_
    exact ⟨rfl, rfl⟩
  by_cases c2 : n < 0
  · refine walk none0 ?_
    exact ⟨rfl, rfl⟩
  refine walk none0 ?_
  refine (size_some p r size H h.p0).mono fun v H2 hn2 ⟨e2, e3⟩ => ?_
  subst e2; subst e3
  refine walk none0 ?_
  exact ⟨rfl, rfl⟩

theorem read_yes (p r : Nat) (size : Int) (l : List (Int × Nat)) (bl : Nat → List UInt8) (off n : Int) (H : Heap) (h : FileR H p r l bl size) (ho : 0 ≤ off) (hn : 0 ≤ n) (hs : off < size) (hsz : size ≤ 65536) :
    Cl Try.prog pr04 10 [.ptr (some (p, 0)), .int .i64 off, .int .i64 n] H fun v H' => Fresh H H' 5 1 v (min n (size - off)).toNat (cellsOfBytes (rdL (cell l bl) off (min n (size - off)).toNat)) := by
  refine Cl.wf fun hw => ?_
  have hpl := hw.lt h.p0
  have hrl := hw.lt h.r0
  refine Cl.enter Try.func10 rfl rfl Try.ntmps10 (by simp) ?_
  refine walk none0 ?_
  refine (size_some p r size H h.p0).mono fun v H2 hn2 ⟨e2, e3⟩ => ?_
  subst e2; subst e3
  have hp := h.p0
  refine walk hp ?_
  refine (spans_ok off (min n (size - off)) _ (by omega) (by omega)).mono fun v H1 hn1 hf => ?_
  generalize hm : min n (size - off) = m at *
  have hm0 : 0 ≤ m ∧ off + m ≤ 65536 := by omega
  obtain ⟨hp0, hpC, hC, _, hspan⟩ := spans_facts ho hm0.1
  generalize hL : spans off m = L at *
  generalize hCL : L.length = C at *
  obtain ⟨a, ex, rfl, _⟩ := hf.own.form
  have hn := hf.keep.next
  have h1 := h.upd hw hf.keep fun _ _ => id
  have hp1 := h1.p0
  have hr1 := h1.r0
  refine walk hp ?_
  refine Wq.loop (fun m' e H' => ∃ (i : Nat) (w : AV), i ≤ C ∧ e 0 = .ptr (some (p, 0)) ∧ e 7 = w ∧ e 33 = .slice a C C ex ∧ e 34 = .int .i64 C ∧ e 35 = .int .i64 i ∧ m' = C - i ∧ Fresh H1 H' 5 1 w (posOf off m i - off).toNat (cellsOfBytes (rdL (cell l bl) off (posOf off m i - off).toNat))) C ?_ ?_
  · exact ⟨0, .slice none 0 0 none, by omega, by simp, by simp, by simp, by simp, by simp, by omega, by rw [hp0, Int.sub_self]; exact Fresh.nil Upd.rfl⟩
  · rintro m' e H' ⟨i, w, hi, g0, g7, g33, g34, g35, rfl, hw'⟩
    by_cases hlt : i < C
    · obtain ⟨b, o, c, t, ww, mm, rfl, hb1, hb2, hb3, hb4⟩ := hf.own.sl.at (by omega)
      obtain ⟨hx, q1, q2, q3, q4, q5⟩ := hspan i hlt
      have hk := hw'.keep
      have hg := hk.get hb1 ▸ hb2
      have hs := sub_take hb4 (i := i * 3) (k := 3) (by omega)
      rw [flat_take (s := 3) (fun _ => rfl) hx] at hs
      simp only [encSpan] at hs
      have hp' := hk.get (show p < H1.next by omega) ▸ hp1
      have hr' := hk.get (show r < H1.next by omega) ▸ hr1
      have hk2 := hk.next
      have hfit : o + i * 3 + 3 ≤ c.length := by omega
      refine walk (both g0 (both g7 (both g33 (both g34 (both g35 (both hg (both hs hfit))))))) ?_
      refine Wq.regionD [0, 1, 2, 3, 4, 5, 6, 7] (by kernel_rfl) ?_
      refine walk (both g0 (both g7 (both g33 (both g34 (both g35 (both hp' hr')))))) ?_
      have hfr : ((posOf off m i - 64 * (off / 64 + i)).toNat : Int) = posOf off m i - 64 * (off / 64 + i) := by omega
      generalize hfrN : (posOf off m i - 64 * (off / 64 + i)).toNat = fr at *
      have hcn : ((posOf off m (i + 1) - posOf off m i).toNat : Int) = posOf off m (i + 1) - posOf off m i := by omega
      generalize hcnN : (posOf off m (i + 1) - posOf off m i).toNat = cn at *
      have hcn2 : (posOf off m (i + 1) - 64 * (off / 64 + i) - (posOf off m i - 64 * (off / 64 + i))).toNat = cn := by omega
      cases hb' : iget (off / 64 + i) l with
      | none =>
        refine walk (both g0 (both g7 (both g33 (both g34 (both g35 (both hp' (both hr' (both hb' (both hfrN hcn2))))))))) ?_
        refine Oq.append (own := (hw'.then (((Upd.rfl.push _).set _ (by simp) (by omega)).push _)).own) (m := cn) (by simp (disch := omega) [g0, g7, g33, g34, g35, hp', hr', hb', -getElem?_pos, wrapI64, tdivN, tmodN, ipos, ineg, dpos, dneg, slc_l, slc_h, slc_lh, slc_hm, slc_lhm, slc_0, slcR_some, slcR_none, cutS_ok, cutA_ok, byteAt_ok]; first | done | (repeat' (first | rfl | apply And.intro))) ⟨_, rfl, by simp; first | done | (repeat' (first | rfl | apply And.intro))⟩ rfl (by kernel_rfl) (by kernel_rfl) (src_at (c := cellsOfBytes (zeroB 64)) (by simp (disch := omega) [ineg]; first | done | (repeat' (first | rfl | apply And.intro))) (by simp [(zeroB_len 64)]; omega)) (by simp [(zeroB_len 64)]; omega) (by rw [Nat.mul_one, cellsOfBytes_drop, cellsOfBytes_take]; exact cellsOfBytes_one _) (by omega) (by omega) fun w1 H3 o1 b1 s1 => ?_
        refine walk (both g0 (both g7 (both g33 (both g34 (both g35 (both hp' (both hr' hb'))))))) ?_
        have hf2 := (hw'.then (((Upd.rfl.push _).set _ (by simp) (by omega)).push _)).app o1 b1 s1
        have hcell : ∀ q : Nat, q < 64 → cell l bl (64 * (off / 64 + i) + q) = (zeroB 64).getD q 0 := (cell_none hb')
        have hpc := rdL_piece (f := cell l bl) (k := off / 64 + i) (fr := fr) (cnt := cn) (zeroB_len 64) hcell (by omega)
        rw [show (64 * (off / 64 + i) + (fr : Int)) = off + ((posOf off m i - off).toNat : Int) from by omega] at hpc
        rw [Nat.mul_one, cellsOfBytes_drop, cellsOfBytes_take, ← cellsOfBytes_app, ← hpc, ← rdL_app, show (posOf off m i - off).toNat + cn = (posOf off m (i + 1) - off).toNat from by omega] at hf2
        refine Roundq.normal (C - (i + 1)) (by omega) ⟨i + 1, w1, by omega, ?_⟩
        simp [g0, g7, g33, g34, g35]
        exact hf2
      | some b' =>
        have hbk := h1.blk _ _ (iget_mem hb')
        have hbl : b' < H1.next := by have := h.lt hw b' (.inr (.inr ⟨_, iget_mem hb'⟩)); omega
        have hbk' := hk.get hbl ▸ hbk.1
        have ht64 : (cellsOfBytes (bl b')).take 64 = cellsOfBytes (bl b') := List.take_of_length_le (by rw [cellsOfBytes_len]; omega)
        refine walk (both g0 (both g7 (both g33 (both g34 (both g35 (both hp' (both hr' (both hb' (both hbk' (both hbk.2 ht64)))))))))) ?_
        refine Oq.storeFull (b := H'.next + 1) (vs := cellsOfBytes (bl b')) (by simp) (by simp) (by simp; exact ⟨rfl, rfl, rfl⟩) (by simp [hbk.2]) (by simp [hbk.2]) (cellsOfBytes_one _) (by simp [hbk.2]) ?_
        refine walk (both g0 (both g7 (both g33 (both g34 (both g35 (both hp' (both hr' (both hb' (both hfrN hcn2))))))))) ?_
        refine Oq.append (own := (hw'.then ((((Upd.rfl.push _).set _ (by simp) (by omega)).push _).set _ (by simp) (by omega))).own) (m := cn) (by simp (disch := omega) [g0, g7, g33, g34, g35, hp', hr', hb', -getElem?_pos, wrapI64, tdivN, tmodN, ipos, ineg, dpos, dneg, slc_l, slc_h, slc_lh, slc_hm, slc_lhm, slc_0, slcR_some, slcR_none, cutS_ok, cutA_ok, byteAt_ok]; first | done | (repeat' (first | rfl | apply And.intro))) ⟨_, rfl, by simp; first | done | (repeat' (first | rfl | apply And.intro))⟩ rfl (by kernel_rfl) (by kernel_rfl) (src_at (c := cellsOfBytes (bl b')) (by simp (disch := omega) [ineg]; first | done | (repeat' (first | rfl | apply And.intro))) (by simp [hbk.2]; omega)) (by simp [hbk.2]; omega) (by rw [Nat.mul_one, cellsOfBytes_drop, cellsOfBytes_take]; exact cellsOfBytes_one _) (by omega) (by omega) fun w1 H3 o1 b1 s1 => ?_
        refine walk (both g0 (both g7 (both g33 (both g34 (both g35 (both hp' (both hr' hb'))))))) ?_
        have hf2 := (hw'.then ((((Upd.rfl.push _).set _ (by simp) (by omega)).push _).set _ (by simp) (by omega))).app o1 b1 s1
        have hcell : ∀ q : Nat, q < 64 → cell l bl (64 * (off / 64 + i) + q) = (bl b').getD q 0 := (cell_some hb')
        have hpc := rdL_piece (f := cell l bl) (k := off / 64 + i) (fr := fr) (cnt := cn) hbk.2 hcell (by omega)
        rw [show (64 * (off / 64 + i) + (fr : Int)) = off + ((posOf off m i - off).toNat : Int) from by omega] at hpc
        rw [Nat.mul_one, cellsOfBytes_drop, cellsOfBytes_take, ← cellsOfBytes_app, ← hpc, ← rdL_app, show (posOf off m i - off).toNat + cn = (posOf off m (i + 1) - off).toNat from by omega] at hf2
        refine Roundq.normal (C - (i + 1)) (by omega) ⟨i + 1, w1, by omega, ?_⟩
        simp [g0, g7, g33, g34, g35]
        exact hf2
    · have : i = C := by omega
      subst this
      rw [hpC, show (off + m - off).toNat = m.toNat from by omega] at hw'
      refine walk (both g0 (both g7 (both g33 (both g34 g35)))) ?_
      exact Fresh.after hf.keep hw'
end Go.Abs

/- Chapter 04: a file of the program's, written. -/
namespace Go.Abs
open Go.Proofs
set_option maxRecDepth 100000
set_option linter.unusedVariables false
set_option linter.unusedSimpArgs false

section
variable {H : Heap} {p r : Nat} {l : List (Int × Nat)} {bl : Nat → List UInt8} {size : Int}
theorem FileR.ne_r (h : FileR H p r l bl size) : p ≠ r := by
  intro e; subst e
  have := h.p0.symm.trans h.r0
  simp at this
theorem FileR.ne_p {k : Int} {b : Nat} (h : FileR H p r l bl size) (hb : (k, b) ∈ l) : b ≠ p := by
  intro e; subst e
  have := h.p0.symm.trans (h.blk k b hb).1
  simp at this
theorem FileR.ne_rb {k : Int} {b : Nat} (h : FileR H p r l bl size) (hb : (k, b) ∈ l) : b ≠ r := by
  intro e; subst e
  have := h.r0.symm.trans (h.blk k b hb).1
  simp at this
def updB (bl : Nat → List UInt8) (b : Nat) (bytes : List UInt8) : Nat → List UInt8 := fun x => if x = b then bytes else bl x
theorem cell_upd_ne {b : Nat} {x : List UInt8} {j : Int} (h : ∀ b', iget (j / 64) l = some b' → b' ≠ b) : cell l (updB bl b x) j = cell l bl j := by
  unfold cell
  cases hg : iget (j / 64) l with
  | none => rfl
  | some b' => simp only [updB]; rw [if_neg (h b' hg)]
theorem FileR.setBlk {k : Int} {b : Nat} {bytes : List UInt8} (h : FileR H p r l bl size) (hb : (k, b) ∈ l) (hl : bytes.length = 64) : FileR (H.set b (.cells (cellsOfBytes bytes) 60 true false)) p r l (updB bl b bytes) size := by
  refine ⟨?_, ?_, h.once, ?_, h.inj⟩
  · rw [Heap.get_set, if_neg (fun e => h.ne_p hb e.symm)]; exact h.p0
  · rw [Heap.get_set, if_neg (fun e => h.ne_rb hb e.symm)]; exact h.r0
  · intro k' b' hb'
    rw [Heap.get_set]
    unfold updB
    by_cases e : b' = b
    · rw [if_pos e, if_pos e]; exact ⟨rfl, hl⟩
    · rw [if_neg e, if_neg e]; exact h.blk k' b' hb'
theorem FileR.addBlk {k : Int} {nb : Nat} {bytes : List UInt8} (h : FileR H p r l bl size) (hk : iget k l = none) (hb : H.get nb = some (.cells (cellsOfBytes bytes) 60 true false)) (hl : bytes.length = 64) (hn : ∀ k', (k', nb) ∉ l) :
    FileR (H.set r (.map (imap .i64 (pm ptrTo (iset k nb l))))) p r (iset k nb l) (updB bl nb bytes) size := by
  have hnr : nb ≠ r := by
    intro e; subst e
    have := h.r0.symm.trans hb
    simp at this
  refine ⟨?_, ?_, ionce_iset h.once, ?_, ?_⟩
  · rw [Heap.get_set, if_neg h.ne_r]; exact h.p0
  · rw [Heap.get_set, if_pos rfl]
  · intro k' b' hb'
    unfold updB
    rcases mem_iset hb' with ⟨rfl, rfl⟩ | hb'
    · rw [if_pos rfl, Heap.get_set, if_neg hnr]; exact ⟨hb, hl⟩
    · rw [if_neg (fun e => hn k' (by rw [← e]; exact hb')), Heap.get_set, if_neg (h.ne_rb hb')]; exact h.blk k' b' hb'
  · intro k1 k2 b' h1 h2
    rcases mem_iset h1 with ⟨rfl, rfl⟩ | h1
    · rcases mem_iset h2 with ⟨rfl, _⟩ | h2
      · rfl
      · exact absurd h2 (hn _)
    · rcases mem_iset h2 with ⟨e1, e2⟩ | h2
      · rw [e2] at h1; exact absurd h1 (hn _)
      · exact h.inj _ _ _ h1 h2
theorem FileR.setSize {s' : Int} (h : FileR H p r l bl size) : FileR (H.set p (.cells [.map (some r), .int .i64 s'] 51 true false)) p r l bl s' := by
  refine ⟨?_, ?_, h.once, ?_, h.inj⟩
  · rw [Heap.get_set, if_pos rfl]
  · rw [Heap.get_set, if_neg (fun e => h.ne_r e.symm)]; exact h.r0
  · intro k' b' hb'
    rw [Heap.get_set, if_neg (h.ne_p hb')]; exact h.blk k' b' hb'
theorem FileR.delBlk {k : Int} (h : FileR H p r l bl size) : FileR (H.set r (.map (imap .i64 (pm ptrTo (idel k l))))) p r (idel k l) bl size := by
  refine ⟨?_, ?_, ionce_idel h.once, ?_, fun _ _ _ a b => h.inj _ _ _ (mem_idel a) (mem_idel b)⟩
  · rw [Heap.get_set, if_neg h.ne_r]; exact h.p0
  · rw [Heap.get_set, if_pos rfl]
  · intro k' b' hb'
    have hb' := mem_idel hb'
    rw [Heap.get_set, if_neg (h.ne_rb hb')]; exact h.blk k' b' hb'
end

theorem write_no {p r : Nat} {size : Int} {l : List (Int × Nat)} {bl : Nat → List UInt8} (off room : Int) {n : Nat} {bv : AV} {cs : List AV} (H : Heap) (h : FileR H p r l bl size) (hb : Sl H 1 bv n cs) (hn : n ≤ 300) (hof : -9223372036854775808 ≤ off ∧ off ≤ 9223372036854775807) (hc : off < 0 ∨ off > 65536 ∨ n > 65536 - off) :
    Cl Try.prog pr04 17 [.ptr (some (p, 0)), .int .i64 off, bv, .int .i64 room] H fun v H' => v = .tuple [.int .i64 0, .int .i64 (if off < 0 then 22 else 27)] ∧ H' = H := by
  obtain ⟨a, cap, ex, rfl, hcap, hex⟩ := hb.form
  refine Cl.enter Try.func17 rfl rfl Try.ntmps17 (by simp) ?_
  by_cases c1 : off < 0
  · refine walk none0 ?_
    exact ⟨by rw [if_pos c1], rfl⟩
  by_cases c2 : off > 65536
  · refine walk none0 ?_
    exact ⟨by rw [if_neg c1], rfl⟩
  refine walk none0 ?_
  exact ⟨by rw [if_neg c1], rfl⟩

theorem write_full {p r : Nat} {size : Int} {l : List (Int × Nat)} {bl : Nat → List UInt8} (off room : Int) {n : Nat} {bv : AV} {cs : List AV} (H : Heap) (h : FileR H p r l bl size) (hb : Sl H 1 bv n cs) (hn : n ≤ 300) (hc : 0 ≤ off ∧ off ≤ 65536 ∧ n ≤ 65536 - off) (hr : needN (fun k => (iget k l).isSome) off n > room) :
    Cl Try.prog pr04 17 [.ptr (some (p, 0)), .int .i64 off, bv, .int .i64 room] H fun v H' => v = .tuple [.int .i64 0, .int .i64 28] ∧ Keep H H' := by
  obtain ⟨a, cap, ex, rfl, hcap, hex⟩ := hb.form
  refine Cl.enter Try.func17 rfl rfl Try.ntmps17 (by simp) ?_
  refine walk none0 ?_
  refine (need_ok p r size l off n (by omega) (by omega) H h.p0 h.r0).mono fun v H1 hn1 ⟨e1, hk⟩ => ?_
  subst e1
  refine walk none0 ?_
  exact ⟨rfl, hk⟩

/-- What a write leaves. -/
structure Wrote (H H' : Heap) (p r : Nat) (l l' : List (Int × Nat)) (bl bl' : Nat → List UInt8) (size' : Int) (off : Int) (B : List UInt8) (upto : Int) (i : Nat) : Prop where
  rep : FileR H' p r l' bl' size'
  cel : ∀ j, cell l' bl' j = if off ≤ j ∧ j < upto then B.getD (j - off).toNat 0 else cell l bl j
  som : ∀ k, (iget k l').isSome = ((iget k l).isSome || (decide (off / 64 ≤ k) && decide (k < off / 64 + i)))
  ln : (l'.length : Int) = l.length + lackN (fun k => (iget k l).isSome) (off / 64) i
  upd : Upd (fpF p r l) H H'
  fp : ∀ b, fpF p r l' b → fpF p r l b ∨ H.next ≤ b

section
variable {H H' Ha : Heap} {p r : Nat} {l l' : List (Int × Nat)} {bl bl' : Nat → List UInt8} {s off upto : Int} {B : List UInt8} {i : Nat}
theorem Wrote.then (w : Wrote H H' p r l l' bl bl' s off B upto i) (hw : Wf H') (u : Keep H' Ha) : Wrote H Ha p r l l' bl bl' s off B upto i :=
  ⟨w.rep.upd hw u fun _ _ => id, w.cel, w.som, w.ln, w.upd.then u, w.fp⟩
theorem Wrote.have (w : Wrote H H' p r l l' bl bl' s off B upto i) (h : (iget (off / 64 + i) l').isSome = true) : Wrote H H' p r l l' bl bl' s off B upto (i + 1) := by
  have h1 := w.som (off / 64 + i)
  have e : (decide (off / 64 ≤ off / 64 + (i : Int)) && decide (off / 64 + (i : Int) < off / 64 + i)) = false := by simp
  rw [h, e, Bool.or_false] at h1
  refine ⟨w.rep, w.cel, ?_, ?_, w.upd, w.fp⟩
  · intro k
    rw [w.som k]
    by_cases hk : k = off / 64 + i
    · subst hk; rw [← h1]; simp
    · congr 1
      rw [Bool.eq_iff_iff]
      simp
      omega
  · rw [w.ln]
    simp only [lackN, ← h1, if_true]
    omega
theorem Wrote.add {nb : Nat} (w : Wrote H H' p r l l' bl bl' s off B upto i) (h : iget (off / 64 + i) l' = none) (hb : H'.get nb = some (.cells (cellsOfBytes (zeroB 64)) 60 true false)) (hn : H.next ≤ nb) (hf : ∀ b, fpF p r l' b → b ≠ nb) (hr : r < H'.next) :
    Wrote H (H'.set r (.map (imap .i64 (pm ptrTo (iset (off / 64 + i) nb l'))))) p r l (iset (off / 64 + i) nb l') bl (updB bl' nb (zeroB 64)) s off B upto (i + 1) := by
  have h1 := w.som (off / 64 + i)
  have e : (decide (off / 64 ≤ off / 64 + (i : Int)) && decide (off / 64 + (i : Int) < off / 64 + i)) = false := by simp
  rw [h, e, Bool.or_false, Option.isSome_none] at h1
  have hnb : ∀ k', (k', nb) ∉ l' := fun k' hk => hf nb (.inr (.inr ⟨k', hk⟩)) rfl
  refine ⟨w.rep.addBlk h hb (zeroB_len 64) hnb, ?_, ?_, ?_, w.upd.set _ hr (fun _ => .inr (.inl rfl)), ?_⟩
  · intro j
    rw [← w.cel j]
    unfold cell
    rw [iget_iset]
    by_cases hk : off / 64 + i = j / 64
    · rw [if_pos hk, ← hk, h]
      simp only [updB, if_true]
      unfold zeroB
      rw [List.getD_eq_getElem?_getD, List.getElem?_replicate, if_pos (by omega)]
      rfl
    · rw [if_neg hk]
      cases hg : iget (j / 64) l' with
      | none => rfl
      | some b =>
        simp only [updB]
        rw [if_neg (fun e => hnb _ (by rw [← e]; exact iget_mem hg))]
  · intro k
    rw [iget_iset]
    by_cases hk : off / 64 + i = k
    · rw [if_pos hk, ← hk]; simp; right; omega
    · rw [if_neg hk, w.som k]
      congr 1
      rw [Bool.eq_iff_iff]
      simp
      omega
  · rw [iset_len, h]
    simp only [Option.isSome_none, Bool.false_eq_true, if_false, lackN, ← h1]
    have := w.ln
    omega
  · rintro b (rfl | rfl | ⟨k, hk⟩)
    · exact .inl (.inl rfl)
    · exact .inl (.inr (.inl rfl))
    · rcases mem_iset hk with ⟨_, rfl⟩ | hk
      · exact .inr hn
      · exact w.fp b (.inr (.inr ⟨k, hk⟩))
theorem Wrote.set {k : Int} {b fr cn d : Nat} (w : Wrote H H' p r l l' bl bl' s off B upto i) (hb : iget k l' = some b) (hu : upto = 64 * k + fr) (hc : fr + cn ≤ 64) (hd : (d : Int) = upto - off) (hB : d + cn ≤ B.length) (hlt : b < H'.next) (hfp : b < H.next → fpF p r l b) :
    Wrote H (H'.set b (.cells (cellsOfBytes ((bl' b).take fr ++ ((B.drop d).take cn ++ (bl' b).drop (fr + cn)))) 60 true false)) p r l l' bl (updB bl' b ((bl' b).take fr ++ ((B.drop d).take cn ++ (bl' b).drop (fr + cn)))) s off B (upto + cn) i := by
  have hbl := (w.rep.blk _ _ (iget_mem hb)).2
  refine ⟨w.rep.setBlk (iget_mem hb) (by simp [hbl]; omega), ?_, w.som, w.ln, w.upd.set _ hlt hfp, w.fp⟩
  intro j
  have hold := w.cel j
  by_cases hk : j / 64 = k
  · unfold cell at hold ⊢
    rw [hk, hb] at hold
    rw [hk, hb]
    simp only [updB, if_true] at hold ⊢
    have hj : j = 64 * k + (j % 64) := by omega
    have hq : 0 ≤ j % 64 ∧ j % 64 < 64 := ⟨by omega, by omega⟩
    obtain ⟨q, hq'⟩ := Int.eq_ofNat_of_zero_le hq.1
    rw [hq'] at hold hq hj ⊢
    simp only [Int.toNat_natCast] at hold ⊢
    by_cases c1 : q < fr
    · rw [getD_appL (by simp [hbl]; omega)]
      have e1 : ((bl' b).take fr).getD q 0 = (bl' b).getD q 0 := by simp [List.getD, List.getElem?_take, c1]
      rw [e1, hold]
      by_cases c2 : off ≤ j
      · rw [if_pos ⟨c2, by omega⟩, if_pos ⟨c2, by omega⟩]
      · rw [if_neg (by omega), if_neg (by omega)]
    · rw [getD_appR (by simp [hbl]; omega)]
      have e0 : ((bl' b).take fr).length = fr := by simp [hbl]; omega
      rw [e0]
      by_cases c2 : q < fr + cn
      · rw [getD_appL (by simp; omega), if_pos ⟨by omega, by omega⟩]
        have e1 : ((B.drop d).take cn).getD (q - fr) 0 = B.getD (d + (q - fr)) 0 := by simp [List.getD, List.getElem?_take, show q - fr < cn from by omega]
        rw [e1]
        congr 1
        omega
      · rw [getD_appR (by simp; omega), if_neg (by omega)]
        rw [if_neg (by omega)] at hold
        rw [← hold]
        have e1 : ((B.drop d).take cn).length = cn := by simp; omega
        rw [e1]
        simp only [List.getD, List.getElem?_drop]
        congr 2
        omega
  · have hne : ∀ b', iget (j / 64) l' = some b' → b' ≠ b := by
      intro b' h1 h2
      subst h2
      exact hk (w.rep.inj _ _ _ (iget_mem h1) (iget_mem hb))
    rw [cell_upd_ne hne, hold]
    by_cases c : off ≤ j ∧ j < upto
    · rw [if_pos c, if_pos ⟨c.1, by omega⟩]
    · rw [if_neg c, if_neg (by omega)]
end

set_option maxHeartbeats 1000000 in
theorem write_yes {p r : Nat} {size : Int} {l : List (Int × Nat)} {bl : Nat → List UInt8} (off room : Int) {n : Nat} {bv : AV} {B : List UInt8} (H : Heap) (h : FileR H p r l bl size) (hb : Sl H 1 bv n (cellsOfBytes B)) (hn : n ≤ 300) (hd : ∀ b, slBlock bv = some b → ¬ fpF p r l b) (hc : 0 ≤ off ∧ off ≤ 65536 ∧ n ≤ 65536 - off) (hr : needN (fun k => (iget k l).isSome) off n ≤ room) (hsz : 0 ≤ size ∧ size ≤ 65536) :
    Cl Try.prog pr04 17 [.ptr (some (p, 0)), .int .i64 off, bv, .int .i64 room] H fun v H' => v = .tuple [.int .i64 (needN (fun k => (iget k l).isSome) off n), .int .i64 0] ∧
      ∃ l' bl', Wrote H H' p r l l' bl bl' (if 0 < n then max size (off + n) else size) off B (off + n) (spans off n).length := by
  refine Cl.wf fun hw => ?_
  obtain ⟨a, cap, ex, rfl, hcap, hex⟩ := hb.form
  have hpl := hw.lt h.p0
  have hrl := hw.lt h.r0
  refine Cl.enter Try.func17 rfl rfl Try.ntmps17 (by simp) ?_
  refine walk none0 ?_
  refine (need_ok p r size l off n (by omega) (by omega) H h.p0 h.r0).mono fun v H1 hn1 ⟨e1, hk⟩ => ?_
  subst e1
  generalize hneed : needN (fun k => (iget k l).isSome) off n = need at *
  have h1 := h.upd hw hk fun _ _ => id
  have hp1 := h1.p0
  by_cases h0 : 0 < n
  · rw [if_pos h0]
    refine walk hp1 ?_
    have h2 := h1.setSize (s' := max size (off + n))
    generalize hH2 : H1.set p (AObj.cells [AV.map (some r), AV.int IntKind.i64 (max size (off + n))] 51 true false) = H2 at *
    have u2 : Upd (fpF p r l) H H2 := by subst hH2; exact (Upd.of hk).set _ (by omega) (fun _ => .inl rfl)
    refine Cl.wfK ((spans_ok off n H2 (by omega) (by omega)).mono fun v H3 hn3 hf hw3 => ?_)
    have hw2 : Wf H2 := by subst hH2; exact set_wf (by omega) _ (hk.wf hw)
    have h3 := h2.upd hw2 hf.keep fun _ _ => id
    obtain ⟨hp0, hpC, hC, hCl, hspan⟩ := spans_facts (off := off) (m := n) (by omega) (by omega)
    have hCl := hCl (by omega)
    obtain ⟨a3, ex3, rfl, _⟩ := hf.own.form
    obtain ⟨b3, o3, c3, t3, w3, m3, rfl, hb31, hb32, hb33, hb34⟩ := hf.own.sl.at (by rw [hCl]; unfold cntOf; omega)
    have hb3n : ¬ fpF p r l b3 := fun hh => by have := h.lt hw _ hh; have := hf.new b3 rfl; have := u2.next; omega
    obtain ⟨bb, ob, cB, tB, wB, mB, rfl, hbb1, hbb2, hbb3, hbb4⟩ := hb.at h0
    have hbbn := hd bb rfl
    have hbb2 : H3.get bb = some (.cells cB tB wB mB) := ((u2.then hf.keep).keep bb hbb1 hbbn).trans hbb2
    have hbb1 : bb < H3.next := by have := u2.next; omega
    have hBl : B.length = n := by have := hb.len; rw [cellsOfBytes_len] at this; omega
    generalize hLn : (spans off (n : Int)).length = C at *
    have hneedE : need = need := rfl
    have hW0 : Wrote H3 H3 p r l l bl bl (max size (off + n)) off B (posOf off n 0) 0 :=
      ⟨h3, fun j => by rw [hp0, if_neg (by omega)], fun k => by
        have : (decide (off / 64 ≤ k) && decide (k < off / 64 + ((0 : Nat) : Int))) = false := by simp
        rw [this, Bool.or_false], by simp [lackN], Upd.rfl, fun b hb => .inl hb⟩
    refine walk none0 ?_
    refine Wq.loop (fun m e H' => ∃ (i : Nat) (l' : List (Int × Nat)) (bl' : Nat → List UInt8) (d cap' : Nat), i ≤ C ∧ (d : Int) = posOf off n i - off ∧ n - d ≤ cap' ∧ e 0 = .ptr (some (p, 0)) ∧ e 2 = .slice (some (bb, ob + d)) (n - d) cap' ex ∧ e 10 = .int .i64 need ∧ e 53 = .slice (some (b3, o3)) C C ex3 ∧ e 54 = .int .i64 C ∧ e 55 = .int .i64 i ∧ m = C - i ∧ Wf H' ∧
      Wrote H3 H' p r l l' bl bl' (max size (off + n)) off B (posOf off n i) i) C ?_ ?_
    · exact ⟨0, l, bl, 0, cap, by omega, by omega, by omega, by simp, by simp, by simp, by simp, by simp, by simp, by omega, hw3, hW0⟩
    · rintro m e H' ⟨i, l', bl', d, cap', hi, hd', hcap', g0, g2, g10, g53, g54, g55, rfl, hw', hW⟩
      by_cases hlt : i < C
      · obtain ⟨hx, q1, q2, q3, q4, q5⟩ := hspan i hlt
        have hk2 := hW.upd.next
        have hg := (hW.upd.keep b3 hb31 hb3n).trans hb32
        have hgB := (hW.upd.keep bb hbb1 hbbn).trans hbb2
        have hs := sub_take hb34 (i := i * 3) (k := 3) (by omega)
        rw [flat_take (s := 3) (fun _ => rfl) hx] at hs
        simp only [encSpan] at hs
        have hp' := hW.rep.p0
        have hr' := hW.rep.r0
        have hpn := hw'.lt hp'
        have hrn := hw'.lt hr'
        have hfit : o3 + i * 3 + 3 ≤ c3.length := by omega
        have hfr : ((posOf off n i - 64 * (off / 64 + i)).toNat : Int) = posOf off n i - 64 * (off / 64 + i) := by omega
        generalize hfrN : (posOf off n i - 64 * (off / 64 + i)).toNat = fr at *
        have hcn2 : (posOf off n (i + 1) - 64 * (off / 64 + i) - (posOf off n i - 64 * (off / 64 + i))).toNat = (posOf off n (i + 1) - posOf off n i).toNat := by omega
        have hcn : ((posOf off n (i + 1) - posOf off n i).toNat : Int) = posOf off n (i + 1) - posOf off n i := by omega
        generalize hcnN : (posOf off n (i + 1) - posOf off n i).toNat = cn at *
        have hs1 := sub_take hbb4 (i := d) (k := cn) (by omega)
        rw [cellsOfBytes_drop, cellsOfBytes_take] at hs1
        refine walk (both g0 (both g2 (both g53 (both g54 (both g55 (both hg (both hs hfit))))))) ?_
        refine Wq.gen (fun Hs => Keep H' Hs ∧ Hs.get H'.next = some (.cells (encSpan (off / 64 + i, posOf off n i - 64 * (off / 64 + i), posOf off n (i + 1) - 64 * (off / 64 + i))) 58 true false) ∧ Hs.next = H'.next + 1) ⟨(Upd.rfl.push _).set _ (by simp) (by omega), by simp [encSpan], by simp⟩ fun Hs ⟨hks, hgs, hns⟩ => ?_
        simp only [encSpan] at hgs
        have hWs := hW.then hw' hks
        have hws := hks.wf hw'
        have hps := hWs.rep.p0
        have hrs := hWs.rep.r0
        refine Wq.regionD [0, 1, 2, 3, 4, 5, 6, 7] (by kernel_rfl) ?_
        refine walkr (both g0 (both g2 (both g53 (both g54 (both g55 (both hps (both hrs hgs))))))) ?_
        refine Wq.seq (Wq.mono (Q := fun x e2 Hx => x = .normal ∧ ∃ l2 bl2 blk, Wrote H3 Hx p r l l2 bl bl2 (max size (off + n)) off B (posOf off n i) (i + 1) ∧ iget (off / 64 + i) l2 = some blk ∧ Wf Hx ∧ Hx.get H'.next = Hs.get H'.next ∧ blk ≠ H'.next ∧ e2 0 = e 0 ∧ e2 2 = e 2 ∧ e2 10 = e 10 ∧ e2 12 = .ptr (some (H'.next, 0)) ∧ e2 13 = .ptr (some (blk, 0)) ∧ e2 53 = e 53 ∧ e2 54 = e 54 ∧ e2 55 = e 55) ?_ ?_)
        · have hnp : p ≠ H'.next := by omega
          have hnr : r ≠ H'.next := by omega
          cases hb' : iget (off / 64 + i) l' with
          | none =>
            refine walk (both g0 (both g2 (both g53 (both g54 (both g55 (both hps (both hrs (both hb' hgs)))))))) ?_
            refine Wq.regionD [0, 1, 2, 3, 4, 5, 6, 7] (by kernel_rfl) ?_
            refine walk (both g0 (both g2 (both g53 (both g54 (both g55 (both hps (both hrs (both hb' hgs)))))))) ?_
            have hW1 := hWs.then (Ha := Hs.push (AObj.cells (cellsOfBytes (zeroB 64)) 60 true false)) hws (Upd.rfl.push _)
            have hW2 := hW1.add (nb := Hs.next) hb' (by simp) (by omega) (fun b hb => by have := hWs.rep.lt hws b hb; omega) (by simp; omega)
            refine ⟨rfl, _, _, Hs.next, hW2, by rw [iget_iset, if_pos rfl], set_wf (by simp; omega) _ (push_wf _ hws), ?_, by omega, ?_⟩
            · rw [Heap.get_set, if_neg (fun e => hnr e.symm), Heap.get_push, if_neg (by omega)]
            · simp
          | some b' =>
            refine walk (both g0 (both g2 (both g53 (both g54 (both g55 (both hps (both hrs (both hb' hgs)))))))) ?_
            refine ⟨rfl, l', bl', b', hWs.have (by rw [hb']; rfl), hb', hws, rfl, ?_, ?_⟩
            · have := hW.rep.lt hw' b' (.inr (.inr ⟨_, iget_mem hb'⟩)); omega
            · simp
        · rintro x e2 Hx hnx ⟨rfl, l2, bl2, blk, hW2, hgk, hwx, hgx, hbne, k0, k2, k10, k12, k13, k53, k54, k55⟩
          rw [g0] at k0; rw [g2] at k2; rw [g10] at k10; rw [g53] at k53; rw [g54] at k54; rw [g55] at k55
          rw [hgs] at hgx
          have hblk := hW2.rep.blk _ _ (iget_mem hgk)
          have hblt := hwx.lt hblk.1
          have hBB := (hW2.upd.keep bb hbb1 hbbn).trans hbb2
          have hBl2 : (bl2 blk).length = 64 := hblk.2
          have hblk1 := hblk.1
          refine Thenq.normal ?_
          refine Wq.regionD [1, 2, 3, 4, 5, 6, 7, 8, 9, 0, 10, 11] (by kernel_rfl) ?_
          refine walk (both k0 (both k2 (both k12 (both k13 (both k53 (both k54 (both k55 (both hgx (both hfrN hcn2))))))))) ?_
          refine Oq.copy cn (cd := cellsOfBytes (bl2 blk)) (cs := cB) (by simp (disch := omega) [k0, k2, k12, k13, k53, k54, k55, hgx, hfrN, hcn2]; first | done | (repeat' (first | rfl | apply And.intro))) rfl (by simp) (by omega) (by omega) (by rw [hblk1]) (by rw [hBB]) (by rw [cellsOfBytes_len]; omega) (by omega) (by rw [hs1]; exact cellsOfBytes_one _) ?_
          rw [hs1, cellsOfBytes_take (bl2 blk), cellsOfBytes_drop (bl2 blk), ← cellsOfBytes_app, ← cellsOfBytes_app]
          have hexs : (if ex = none ∨ ex = some 1 then ex else ex) = ex := by split <;> rfl
          refine walk (both k0 (both k2 (both k12 (both k13 (both k53 (both k54 (both k55 hex))))))) ?_
          have hW3 := hW2.set (fr := fr) (cn := cn) (d := d) hgk (by omega) (by omega) (by omega) (by omega) hblt (fun h => by rcases hW2.fp blk (.inr (.inr ⟨_, iget_mem hgk⟩)) with h' | h'; (· exact h'); (· omega))
          rw [show posOf off n i + cn = posOf off n (i + 1) from by omega] at hW3
          refine Roundq.normal (C - (i + 1)) (by omega) ⟨i + 1, l2, _, d + cn, cap' - cn, by omega, by omega, by omega, by simp [k0], ?_, by simp [k10], by simp [k53], by simp [k54], by simp [k55], rfl, set_wf hblt _ hwx, hW3⟩
          simp
          omega
      · have : i = C := by omega
        subst this
        refine walk (both g0 (both g10 (both g54 g55))) ?_
        rw [hpC] at hW
        refine ⟨rfl, l', bl', hW.rep, hW.cel, hW.som, hW.ln, (u2.then hf.keep).trans hW.upd fun _ _ => id, fun b hb => ?_⟩
        rcases hW.fp b hb with h | h
        · exact .inl h
        · exact .inr (by have := u2.next; have := hf.keep.next; omega)
  · rw [if_neg h0]
    have : n = 0 := by omega
    subst this
    refine walk hp1 ?_
    refine (spans_ok off (0 : Nat) H1 (by omega) (by omega)).mono fun v H3 hn3 hf => ?_
    have e0 : spans off ((0 : Nat) : Int) = [] := spans_nil (by omega)
    rw [e0] at hf ⊢
    obtain ⟨a3, ex3, rfl, _⟩ := hf.own.form
    refine walk hp1 ?_
    refine Wq.loop (fun m e H' => e 10 = .int .i64 need ∧ e 54 = .int .i64 0 ∧ e 55 = .int .i64 0 ∧ H' = H3) 0 (by simp) ?_
    rintro m e H' ⟨g10, g54, g55, rfl⟩
    refine walk (both g10 (both g54 g55)) ?_
    refine ⟨rfl, l, bl, h1.upd (hk.wf hw) hf.keep fun _ _ => id, ?_, ?_, by simp [lackN], Upd.of (hk.then hf.keep), fun b hb => .inl hb⟩
    · intro j
      rw [if_neg (by omega)]
    · intro k
      have : (decide (off / 64 ≤ k) && decide (k < off / 64 + (([] : List (Int × Int × Int)).length : Int))) = false := by simp
      rw [this, Bool.or_false]
end Go.Abs

/- Chapter 04: a file of the program's, cut. -/
namespace Go.Abs
open Go.Proofs
set_option maxRecDepth 100000
set_option linter.unusedVariables false
set_option linter.unusedSimpArgs false

theorem trunc_no {p r : Nat} {size : Int} {l : List (Int × Nat)} {bl : Nat → List UInt8} (n : Int) (H : Heap) (h : FileR H p r l bl size) (hc : n < 0 ∨ n > 65536) :
    Cl Try.prog pr04 16 [.ptr (some (p, 0)), .int .i64 n] H fun v H' => v = .tuple [.int .i64 0, .int .i64 (if n < 0 then 22 else 27)] ∧ H' = H := by
  refine Cl.enter Try.func16 rfl rfl Try.ntmps16 (by simp) ?_
  by_cases c1 : n < 0
  · refine walk none0 ?_
    exact ⟨by rw [if_pos c1], rfl⟩
  refine walk none0 ?_
  exact ⟨by rw [if_neg c1], rfl⟩

/-- What a cut has left so far. -/
structure Cutting (H H' : Heap) (p r : Nat) (l l' : List (Int × Nat)) (bl bl' : Nat → List UInt8) (size : Int) (n k gone : Int) : Prop where
  rep : FileR H' p r l' bl' size
  cel : ∀ j, cell l' bl' j = if n ≤ j ∧ j < 64 * k then 0 else cell l bl j
  som : ∀ q, (iget q l').isSome = ((iget q l).isSome && !(decide (n ≤ 64 * q) && decide (q < k)))
  ln : (l'.length : Int) + gone = l.length
  gn : 0 ≤ gone
  upd : Upd (fpF p r l) H H'
  fp : ∀ b, fpF p r l' b → fpF p r l b

section
variable {H H' : Heap} {p r : Nat} {l l' : List (Int × Nat)} {bl bl' : Nat → List UInt8} {size n k gone : Int}
theorem Cutting.none (w : Cutting H H' p r l l' bl bl' size n k gone) (h : iget k l' = none) (hn : n < 64 * k + 64) : Cutting H H' p r l l' bl bl' size n (k + 1) gone := by
  refine ⟨w.rep, ?_, ?_, w.ln, w.gn, w.upd, w.fp⟩
  · intro j
    have hj := w.cel j
    by_cases c : j / 64 = k
    · have e1 : cell l' bl' j = 0 := by unfold cell; rw [c, h]
      rw [e1] at hj ⊢
      by_cases c2 : n ≤ j
      · rw [if_pos ⟨c2, by omega⟩]
      · rw [if_neg (by omega)]
        rw [if_neg (by omega)] at hj
        exact hj
    · rw [hj]
      by_cases c2 : n ≤ j ∧ j < 64 * k
      · rw [if_pos c2, if_pos (by omega)]
      · rw [if_neg c2, if_neg (by omega)]
  · intro q
    rw [w.som q]
    by_cases c : q = k
    · subst c
      have := w.som q
      rw [h] at this
      cases hl : (iget q l).isSome with
      | false => simp
      | true => rw [hl] at this; simp at this
    · congr 2
      rw [Bool.eq_iff_iff]
      simp
      omega
theorem Cutting.del (w : Cutting H H' p r l l' bl bl' size n k gone) (h : (iget k l').isSome = true) (hn : n ≤ 64 * k) (hr : r < H'.next) : Cutting H (H'.set r (.map (imap .i64 (pm ptrTo (idel k l'))))) p r l (idel k l') bl bl' size n (k + 1) (gone + 1) := by
  have hone := w.rep.once
  refine ⟨w.rep.delBlk, ?_, ?_, ?_, by have := w.gn; omega, w.upd.set _ hr (fun _ => .inr (.inl rfl)), ?_⟩
  · intro j
    have hj := w.cel j
    unfold cell at hj ⊢
    rw [iget_idel hone]
    by_cases c : k = j / 64
    · rw [if_pos c, if_pos (by omega)]
    · rw [if_neg c, hj]
      by_cases c2 : n ≤ j ∧ j < 64 * k
      · rw [if_pos c2, if_pos (by omega)]
      · rw [if_neg c2, if_neg (by omega)]
  · intro q
    rw [iget_idel hone]
    by_cases c : k = q
    · subst c
      rw [if_pos rfl]
      simp
      intro _
      omega
    · rw [if_neg c, w.som q]
      congr 2
      rw [Bool.eq_iff_iff]
      simp
      omega
  · rw [idel_len, if_pos h]
    have := w.ln
    have h0 : 0 < l'.length := by
      cases l' with
      | nil => simp [iget] at h
      | cons _ _ => simp
    omega
  · rintro b (rfl | rfl | ⟨k', hk⟩)
    · exact .inl rfl
    · exact .inr (.inl rfl)
    · exact w.fp b (.inr (.inr ⟨k', mem_idel hk⟩))
theorem Cutting.clear {b : Nat} (w : Cutting H H' p r l l' bl bl' size n k gone) (h : iget k l' = some b) (hn : 64 * k < n ∧ n < 64 * k + 64) (hb : b < H'.next) :
    Cutting H (H'.set b (.cells (cellsOfBytes ((bl' b).take (n % 64).toNat ++ zeroB (64 - n % 64).toNat)) 60 true false)) p r l l' bl (updB bl' b ((bl' b).take (n % 64).toNat ++ zeroB (64 - n % 64).toNat)) size n (k + 1) gone := by
  have hbl := (w.rep.blk _ _ (iget_mem h)).2
  refine ⟨w.rep.setBlk (iget_mem h) (by simp [hbl]; omega), ?_, ?_, w.ln, w.gn, w.upd.set _ hb (fun _ => w.fp b (.inr (.inr ⟨_, iget_mem h⟩))), w.fp⟩
  · intro j
    have hj := w.cel j
    by_cases c : j / 64 = k
    · unfold cell at hj ⊢
      rw [c, h] at hj ⊢
      simp only [updB, if_true] at hj ⊢
      have hq : 0 ≤ j % 64 ∧ j % 64 < 64 := ⟨by omega, by omega⟩
      by_cases c2 : n ≤ j
      · rw [if_pos ⟨c2, by omega⟩]
        rw [getD_appR (by simp [hbl]; omega)]
        unfold zeroB
        simp only [List.getD, List.getElem?_replicate]
        split <;> rfl
      · rw [if_neg (by omega)]
        rw [if_neg (by omega)] at hj
        rw [getD_appL (by simp [hbl]; omega), ← hj]
        simp [List.getD, List.getElem?_take, show (j % 64).toNat < (n % 64).toNat from by omega]
    · rw [cell_upd_ne (fun b' h1 h2 => c (w.rep.inj _ _ b (iget_mem (by rw [← h2]; exact h1)) (iget_mem h))), hj]
      by_cases c2 : n ≤ j ∧ j < 64 * k
      · rw [if_pos c2, if_pos (by omega)]
      · rw [if_neg c2, if_neg (by omega)]
  · intro q
    rw [w.som q]
    congr 2
    rw [Bool.eq_iff_iff]
    simp
    omega
end

set_option maxHeartbeats 1000000 in
theorem trunc_yes {p r : Nat} {size : Int} {l : List (Int × Nat)} {bl : Nat → List UInt8} (n : Int) (H : Heap) (h : FileR H p r l bl size) (hc : 0 ≤ n ∧ n ≤ 65536) (hsz : 0 ≤ size ∧ size ≤ 65536) (hz : ∀ j, size ≤ j → cell l bl j = 0) (hks : ∀ q, (iget q l).isSome = true → 64 * q < size) :
    Cl Try.prog pr04 16 [.ptr (some (p, 0)), .int .i64 n] H fun v H' => ∃ gone l' bl', v = .tuple [.int .i64 gone, .int .i64 0] ∧ FileR H' p r l' bl' n ∧ (∀ j, cell l' bl' j = if j < n then cell l bl j else 0) ∧
      (∀ q, (iget q l').isSome = ((iget q l).isSome && decide (64 * q < n))) ∧ (l'.length : Int) + gone = l.length ∧ Upd (fpF p r l) H H' ∧ ∀ b, fpF p r l' b → fpF p r l b := by
  refine Cl.wf fun hw => ?_
  refine Cl.enter Try.func16 rfl rfl Try.ntmps16 (by simp) ?_
  refine walk none0 ?_
  refine Wq.loop (fun m e H' => ∃ (i : Nat) (l' : List (Int × Nat)) (bl' : Nat → List UInt8) (gone : Int), e 0 = .ptr (some (p, 0)) ∧ e 1 = .int .i64 n ∧ e 6 = .int .i64 gone ∧ e 7 = .int .i64 (n / 64 + i) ∧ m = 2000 - i ∧ i ≤ 1025 ∧ gone ≤ i ∧ Wf H' ∧ Cutting H H' p r l l' bl bl' size n (n / 64 + i) gone) 2000 ?_ ?_
  · refine ⟨0, l, bl, 0, by simp, by simp, by simp, by simp, by omega, by omega, by omega, hw, h, ?_, ?_, by omega, by omega, Upd.rfl, fun _ h => h⟩
    · intro j
      rw [if_neg (by omega)]
    · intro q
      have : (decide (n ≤ 64 * q) && decide (q < n / 64 + ((0 : Nat) : Int))) = false := by simp; omega
      rw [this]; simp
  · rintro m e H' ⟨i, l', bl', gone, g0, g1, g6, g7, rfl, hi, hgi, hw', hC⟩
    have hp' := hC.rep.p0
    have hr' := hC.rep.r0
    have hpn := hw'.lt hp'
    have hrn := hw'.lt hr'
    have hln := hC.ln
    have hgn := hC.gn
    by_cases hlt : (n / 64 + i) * 64 < size
    · cases hb' : iget (n / 64 + i) l' with
      | none =>
        refine walk (both g0 (both g1 (both g6 (both g7 (both hp' (both hr' hb')))))) ?_
        have hC1 := hC.none hb' (by omega)
        refine Roundq.normal (2000 - (i + 1)) (by omega) ⟨i + 1, l', bl', gone, by simp [g0], by simp [g1], by simp [g6], by simp; omega, rfl, by omega, by omega, hw', by rw [show n / 64 + ((i + 1 : Nat) : Int) = n / 64 + i + 1 from by omega]; exact hC1⟩
      | some b =>
        have hblk := hC.rep.blk _ _ (iget_mem hb')
        have hbn := hw'.lt hblk.1
        by_cases hd : n ≤ (n / 64 + i) * 64
        · have hdel : ∀ H, delI (n / 64 + i) .i64 r (imap .i64 (pm ptrTo l')) H = some (.undef, H.set r (.map (imap .i64 (idel (n / 64 + i) (pm ptrTo l'))))) := fun H => delI_some (by simp [hb'])
          have hll : (l'.length : Int) ≤ l.length := by omega
          refine walk (both g0 (both g1 (both g6 (both g7 (both hp' (both hr' (both hb' hdel))))))) ?_
          have hC1 := hC.del (by rw [hb']; rfl) (by omega) hrn
          refine Roundq.normal (2000 - (i + 1)) (by omega) ⟨i + 1, _, bl', gone + 1, by simp [g0], by simp [g1], by simp [g6], by simp; omega, rfl, by omega, by omega, set_wf hrn _ hw', by rw [show n / 64 + ((i + 1 : Nat) : Int) = n / 64 + i + 1 from by omega]; exact hC1⟩
        · have h0i : i = 0 := by omega
          subst h0i
          have hm : 0 < n % 64 ∧ n % 64 < 64 := by omega
          have hbl := hblk.2
          have hblk1 := hblk.1
          have hb0 : iget (n / 64) l' = some b := by simpa using hb'
          refine walk (both g0 (both g1 (both g6 (both g7 (both hp' (both hr' hb0)))))) ?_
          refine Oq.clear (b := b) (o := (n % 64).toNat) (k := (64 - n % 64).toNat) (cd := cellsOfBytes (bl' b)) (by simp (disch := omega) [g0, g1, g6, g7, hp', hr', hb0]; first | done | (repeat' (first | rfl | apply And.intro))) ⟨_, rfl, by simp; first | done | exact ⟨rfl, rfl, rfl⟩ | rfl⟩ (by omega) (by rw [hblk1]) (by rw [cellsOfBytes_len]; omega) rfl ?_
          have e1 : List.take (n % 64).toNat (cellsOfBytes (bl' b)) ++ (List.replicate (64 - n % 64).toNat (AV.int IntKind.u8 0) ++ List.drop ((n % 64).toNat + (64 - n % 64).toNat) (cellsOfBytes (bl' b))) = cellsOfBytes ((bl' b).take (n % 64).toNat ++ zeroB (64 - n % 64).toNat) := by
            rw [cellsOfBytes_app, cellsOfBytes_take, List.drop_eq_nil_of_le (by rw [cellsOfBytes_len]; omega), List.append_nil]
            simp [cellsOfBytes, zeroB]
          rw [e1]
          refine walk (both g0 (both g1 (both g6 (both g7 (both hp' (both hr' hb0)))))) ?_
          have hC1 := hC.clear hb' (by omega) hbn
          refine Roundq.normal (2000 - 1) (by omega) ⟨1, l', _, gone, by simp [g0], by simp [g1], by simp [g6], by simp, rfl, by omega, by omega, set_wf hbn _ hw', by rw [show n / 64 + ((1 : Nat) : Int) = n / 64 + ((0 : Nat) : Int) + 1 from by omega]; exact hC1⟩
    · refine walk (both g0 (both g1 (both g6 (both g7 (both hp' hr'))))) ?_
      refine ⟨gone, l', bl', rfl, hC.rep.setSize, ?_, ?_, hC.ln, hC.upd.set _ hpn (fun _ => .inl rfl), hC.fp⟩
      · intro j
        rw [hC.cel j]
        by_cases c : j < n
        · rw [if_pos c, if_neg (by omega)]
        · rw [if_neg c]
          by_cases c2 : j < 64 * (n / 64 + i)
          · rw [if_pos ⟨by omega, c2⟩]
          · rw [if_neg (by omega), hz j (by omega)]
      · intro q
        rw [hC.som q]
        cases hq : (iget q l).isSome with
        | false => rfl
        | true =>
          have := hks q hq
          simp
          rw [Bool.eq_iff_iff]
          simp
          omega
end Go.Abs

/- Chapter 04: the document's answer, walked. -/
namespace Go.Abs
open Go.Proofs
set_option maxRecDepth 100000
set_option linter.unusedVariables false
set_option linter.unusedSimpArgs false

/-- A slice of bytes whose block can be looked at, even where it is empty. -/
def LiveS (H : Heap) (v : AV) : Prop := ∀ b o n c x, v = .slice (some (b, o)) n c x → b < H.next ∧ ∃ cs t w m, H.get b = some (.cells cs t w m) ∧ o + n ≤ cs.length
theorem LiveS.upd {H H' : Heap} {v : AV} {fp : Nat → Prop} (h : LiveS H v) (u : Upd fp H H') (hd : ∀ b, slBlock v = some b → ¬ fp b) : LiveS H' v := by
  rintro b o n c x rfl
  obtain ⟨h1, cs, t, w, m, h2, h3⟩ := h b o n c x rfl
  exact ⟨Nat.lt_of_lt_of_le h1 u.next, cs, t, w, m, (u.keep b h1 (hd b rfl)).trans h2, h3⟩
theorem LiveS.kept {H H' : Heap} {v : AV} (h : LiveS H v) (k : Keep H H') : LiveS H' v := h.upd k fun _ _ => id
theorem LiveS.set {H : Heap} {v : AV} {b : Nat} (h : LiveS H v) (o : AObj) (hb : slBlock v ≠ some b) : LiveS (H.set b o) v := by
  rintro b' o' n c x rfl
  obtain ⟨h1, cs, t, w, m, h2, h3⟩ := h b' o' n c x rfl
  exact ⟨h1, cs, t, w, m, by rw [Heap.get_set, if_neg (fun e => hb (by rw [← e]; rfl))]; exact h2, h3⟩
theorem OwnSl.live {H : Heap} {elem n : Nat} {v : AV} {cs : List AV} (h : OwnSl H elem 1 v n cs) : LiveS H v := by
  rintro b o n' c x rfl
  rcases h with ⟨e, _, _⟩ | ⟨b', sl, e, _, h2, h3, h4⟩
  · cases e
  · simp at e
    obtain ⟨⟨rfl, rfl⟩, rfl, _, _⟩ := e
    exact ⟨h3, cs, elem, true, false, h4, by omega⟩
/-- A file of the reference's, as a value. -/
def RefR (H : Heap) (v : AV) (B : List UInt8) (Has : List Bool) : Prop := ∃ a c x a' c' x', v = .agg [.slice a B.length c x, .slice a' Has.length c' x'] ∧ Sl H 1 (.slice a B.length c x) B.length (cellsOfBytes B) ∧ Sl H 1 (.slice a' Has.length c' x') Has.length (Has.map AV.bool) ∧ LiveS H (.slice a B.length c x)
theorem RefR.kept {H H' : Heap} {v : AV} {B : List UInt8} {Has : List Bool} (h : RefR H v B Has) (k : Keep H H') : RefR H' v B Has := by
  obtain ⟨a, c, x, a', c', x', e, h1, h2, h3⟩ := h
  exact ⟨a, c, x, a', c', x', e, h1.kept k, h2.kept k, h3.kept k⟩
def hasF (Has : List Bool) (k : Int) : Bool := decide (0 ≤ k) && Has.getD k.toNat false

theorem rhas_ok (B : List UInt8) (Has : List Bool) (k : Int) (hk : 0 ≤ k) (v : AV) (H : Heap) (h : RefR H v B Has) :
    Cl Try.prog pr04 24 [v, .int .i64 k] H fun w H' => w = .bool (hasF Has k) ∧ Keep H H' := by
  obtain ⟨a, c, x, a', c', x', rfl, h1, h2, hLv⟩ := h
  refine Cl.enter Try.func24 rfl rfl Try.ntmps24 (by simp) ?_
  by_cases hlt : k < Has.length
  · obtain ⟨b, o, cs, t, w, m, rfl, hb1, hb2, hb3, hb4⟩ := h2.at (by omega)
    have hx := sub_get hb4 (i := k.toNat) (by omega)
    have hg : Has[k.toNat]? = some (Has[k.toNat]'(by omega)) := List.getElem?_eq_getElem (by omega)
    rw [List.getElem?_map, hg, Option.map_some] at hx
    refine walk (both hb2 hx) ?_
    refine ⟨?_, Upd.rfl.push _⟩
    simp [hasF, hk, List.getD, hg]
  · refine walk none0 ?_
    refine ⟨?_, Upd.rfl.push _⟩
    simp [hasF, List.getD, List.getElem?_eq_none (by omega : Has.length ≤ k.toNat)]

theorem rblocks_ok (B : List UInt8) (Has : List Bool) (hl : Has.length ≤ 2000) (v : AV) (H : Heap) (h : RefR H v B Has) :
    Cl Try.prog pr04 25 [v] H fun w H' => w = .int .i64 (Has.count true) ∧ Keep H H' := by
  obtain ⟨a, c, x, a', c', x', rfl, h1, h2, hLv⟩ := h
  refine Cl.enter Try.func25 rfl rfl Try.ntmps25 (by simp) ?_
  refine walk none0 ?_
  refine Wq.loop (fun m e H' => ∃ i : Nat, i ≤ Has.length ∧ e 1 = .ptr (some (H.next, 0)) ∧ e 3 = .int .i64 ((Has.take i).count true) ∧ e 4 = .int .i64 i ∧ m = Has.length - i ∧ Keep H H' ∧ H'.get H.next = some (.cells [.slice a B.length c x, .slice a' Has.length c' x'] 28 true false)) Has.length ?_ ?_
  · exact ⟨0, by omega, by simp, by simp, by simp, by omega, Upd.rfl.push _, by simp⟩
  · rintro m e H' ⟨i, hi, g1, g3, g4, rfl, hk, hg⟩
    by_cases hlt : i < Has.length
    · obtain ⟨b, o, cs, t, w, m, rfl, hb1, hb2, hb3, hb4⟩ := (h2.kept hk).at (by omega)
      have hx := sub_get hb4 (i := i) (by omega)
      have hgi : Has[i]? = some (Has[i]'(by omega)) := List.getElem?_eq_getElem (by omega)
      rw [List.getElem?_map, hgi, Option.map_some] at hx
      have hc : (Has.take (i + 1)).count true = (Has.take i).count true + if Has[i] then 1 else 0 := by
        rw [List.take_add_one, hgi, List.count_append]; simp [List.count_cons]
      have hle : (Has.take i).count true ≤ i := Nat.le_trans List.count_le_length (List.length_take_le _ _)
      cases hv : Has[i] with
      | true =>
        rw [hv] at hx hc
        refine walk (both g1 (both g3 (both g4 (both hg (both hb2 hx))))) ?_
        refine Roundq.normal (Has.length - (i + 1)) (by omega) ⟨i + 1, by omega, by simp [g1], ?_, by simp [g4], rfl, hk, hg⟩
        simp [hc]
      | false =>
        rw [hv] at hx hc
        refine walk (both g1 (both g3 (both g4 (both hg (both hb2 hx))))) ?_
        refine Roundq.normal (Has.length - (i + 1)) (by omega) ⟨i + 1, by omega, by simp [g1], ?_, by simp [g4], rfl, hk, hg⟩
        simp [hc, g3]
    · have : i = Has.length := by omega
      subst this
      refine walk (both g1 (both g3 (both g4 hg))) ?_
      exact ⟨rfl, hk⟩

theorem rneed_ok (B : List UInt8) (Has : List Bool) (off n : Int) (hof : -9223372036854775808 ≤ off ∧ off ≤ 9223372036854775807) (hn : -9223372036854775808 ≤ n ∧ n ≤ 9223372036854775807) (v : AV) (H : Heap) (h : RefR H v B Has) :
    Cl Try.prog pr04 13 [v, .int .i64 off, .int .i64 n] H fun w H' => w = .int .i64 (needN (hasF Has) off n) ∧ Keep H H' := by
  have h' := h
  obtain ⟨a, c, x, a', c', x', rfl, h1, h2, hLv⟩ := h
  refine Cl.enter Try.func13 rfl rfl Try.ntmps13 (by simp) ?_
  by_cases hc : off < 0 ∨ n < 1 ∨ off > 65536 ∨ n > 65536 - off
  · have e1 : needN (hasF Has) off n = 0 := by unfold needN; rw [if_pos hc]
    rw [e1]
    by_cases c1 : off < 0
    · refine walk none0 ?_
      exact ⟨rfl, Upd.rfl.push _⟩
    by_cases c2 : n < 1
    · refine walk none0 ?_
      exact ⟨rfl, Upd.rfl.push _⟩
    by_cases c3 : off > 65536
    · refine walk none0 ?_
      exact ⟨rfl, Upd.rfl.push _⟩
    refine walk none0 ?_
    exact ⟨rfl, Upd.rfl.push _⟩
  · have e1 : needN (hasF Has) off n = lackN (hasF Has) (off / 64) (cntOf off n) := by unfold needN; rw [if_neg hc]
    rw [e1]
    have c1 : 0 ≤ off ∧ 0 < n ∧ off + n ≤ 65536 := by omega
    have hC : (cntOf off n : Int) = (off + n + 63) / 64 - off / 64 := by unfold cntOf; omega
    generalize cntOf off n = C at *
    refine walk none0 ?_
    refine Wq.loop (fun m e H' => ∃ i : Nat, i ≤ C ∧ e 1 = .int .i64 off ∧ e 2 = .int .i64 n ∧ e 3 = .ptr (some (H.next, 0)) ∧ e 7 = .int .i64 (lackN (hasF Has) (off / 64) i) ∧ e 8 = .int .i64 (off / 64 + i) ∧ m = C - i ∧ Keep H H' ∧ H.next < H'.next ∧ H'.get H.next = some (.cells [.slice a B.length c x, .slice a' Has.length c' x'] 28 true false)) C ?_ ?_
    · exact ⟨0, by omega, by simp, by simp, by simp, by simp [lackN], by simp, by omega, Upd.rfl.push _, by simp, by simp⟩
    · rintro m e H' ⟨i, hi, g1, g2, g3, g7, g8, rfl, hk, hnx, hg⟩
      have hbd := lackN_bd (hasF Has) (off / 64) i
      by_cases hlt : i < C
      · refine walk (both g1 (both g2 (both g3 (both g7 (both g8 hg))))) ?_
        refine (rhas_ok B Has (off / 64 + i) (by omega) _ H' (h'.kept hk)).mono fun w H2 hn2 ⟨e2, hk2⟩ => ?_
        subst e2
        have hstep : lackN (hasF Has) (off / 64) (i + 1) = lackN (hasF Has) (off / 64) i + if hasF Has (off / 64 + i) then 0 else 1 := rfl
        cases hv : hasF Has (off / 64 + i) with
        | true =>
          rw [hv] at hstep
          refine walk (both g1 (both g2 (both g3 (both g7 g8)))) ?_
          refine Roundq.normal (C - (i + 1)) (by omega) ⟨i + 1, by omega, by simp [g1], by simp [g2], by simp [g3], by simp [g7, hstep], by simp; omega, rfl, hk.then hk2, by omega, (hk2.get hnx).trans hg⟩
        | false =>
          rw [hv] at hstep
          refine walk (both g1 (both g2 (both g3 (both g7 g8)))) ?_
          refine Roundq.normal (C - (i + 1)) (by omega) ⟨i + 1, by omega, by simp [g1], by simp [g2], by simp [g3], by simp [hstep], by simp; omega, rfl, hk.then hk2, by omega, (hk2.get hnx).trans hg⟩
      · have : i = C := by omega
        subst this
        refine walk (both g1 (both g2 (both g3 (both g7 g8)))) ?_
        exact ⟨rfl, hk⟩
end Go.Abs

/- Chapter 04: the document's answer, walked: reads, and files in memory of their own. -/
namespace Go.Abs
open Go.Proofs
set_option maxRecDepth 100000
set_option linter.unusedVariables false
set_option linter.unusedSimpArgs false

def rdB (B : List UInt8) (off n : Int) : List UInt8 := if off < 0 then [] else (B.drop off.toNat).take n.toNat

theorem rread_ok (B : List UInt8) (Has : List Bool) (hB : B.length ≤ 65536) (off n : Int) (hof : -9223372036854775808 ≤ off ∧ off ≤ 9223372036854775807) (hn : -9223372036854775808 ≤ n ∧ n ≤ 9223372036854775807) (v : AV) (H : Heap) (h : RefR H v B Has) :
    Cl Try.prog pr04 11 [v, .int .i64 off, .int .i64 n] H fun w H' => Fresh H H' 5 1 w (rdB B off n).length (cellsOfBytes (rdB B off n)) := by
  obtain ⟨a, c, x, a', c', x', rfl, h1, h2, hLv⟩ := h
  refine Cl.enter Try.func11 rfl rfl Try.ntmps11 (by simp) ?_
  by_cases hc : off < 0 ∨ off ≥ B.length
  · have e1 : rdB B off n = [] := by
      unfold rdB
      by_cases c1 : off < 0
      · rw [if_pos c1]
      · rw [if_neg c1, List.drop_eq_nil_of_le (by omega), List.take_nil]
    rw [e1]
    by_cases c1 : off < 0
    · refine walk none0 ?_
      exact Fresh.made ((Upd.rfl.push _).push _) (by simp [cellsOfBytes_nil]) (by omega) (by simp) (by simp [cellsOfBytes_nil])
    · refine walk none0 ?_
      exact Fresh.made ((Upd.rfl.push _).push _) (by simp [cellsOfBytes_nil]) (by omega) (by simp) (by simp [cellsOfBytes_nil])
  · have e1 : rdB B off n = (B.drop off.toNat).take n.toNat := by unfold rdB; rw [if_neg (by omega)]
    rw [e1]
    refine walk none0 ?_
    refine Wq.loop (fun m e H' => ∃ (j : Nat) (w : AV), j ≤ ((B.drop off.toNat).take n.toNat).length ∧ e 1 = .int .i64 off ∧ e 2 = .int .i64 n ∧ e 3 = .ptr (some (H.next, 0)) ∧ e 7 = w ∧ e 8 = .int .i64 (off + j) ∧ m = 70000 - j ∧ H'.get H.next = some (.cells [.slice a B.length c x, .slice a' Has.length c' x'] 28 true false) ∧ H.next < H'.next ∧ Fresh (H.push (.cells [.slice a B.length c x, .slice a' Has.length c' x'] 28 true false)) H' 5 1 w j (cellsOfBytes ((B.drop off.toNat).take j))) 70000 ?_ ?_
    · exact ⟨0, _, by omega, by simp, by simp, by simp, by simp; rfl, by simp, by omega, by simp, by simp; omega, Fresh.made (Upd.rfl.push _) (by simp [cellsOfBytes_nil]) (by simp) (by simp) (by simp [cellsOfBytes_nil])⟩
    · rintro m e H' ⟨j, w, hj, g1, g2, g3, g7, g8, rfl, hg, hnx, hf⟩
      have hj' := hj
      simp only [List.length_take, List.length_drop] at hj'
      by_cases hlt : j < ((B.drop off.toNat).take n.toNat).length
      · have hlt' := hlt
        simp only [List.length_take, List.length_drop] at hlt'
        have hk := (Upd.rfl (fp := nobody)).push (H1 := H) (.cells [.slice a B.length c x, .slice a' Has.length c' x'] 28 true false)
        have hS := (h1.kept hk).kept hf.keep
        obtain ⟨b, o, cs, t, w0, m, rfl, hb1, hb2, hb3, hb4⟩ := hS.at (by omega)
        have hx := sub_get hb4 (i := (off + j).toNat) (by omega)
        have hgi : B[(off + j).toNat]? = some (B[(off + j).toNat]'(by omega)) := List.getElem?_eq_getElem (by omega)
        rw [cellsOfBytes_get, hgi, Option.map_some] at hx
        refine walk (both g1 (both g2 (both g3 (both g7 (both g8 (both hg (both hb2 hx))))))) ?_
        refine Oq.append (own := (hf.push _).own) (new := [.int .u8 (B[(off + j).toNat]'(by omega)).toNat]) (m := 1) (by simp (disch := omega) [g1, g2, g3, g7, g8, hg, -getElem?_pos, wrapI64, tdivN, tmodN, ipos, ineg, dpos, dneg, slc_l, slc_h, slc_lh, slc_hm, slc_lhm, slc_0, slcR_some, slcR_none, cutS_ok, cutA_ok, byteAt_ok]; first | done | (repeat' (first | rfl | apply And.intro))) ⟨_, rfl, by simp; first | done | (repeat' (first | rfl | apply And.intro))⟩ rfl (by kernel_rfl) (by kernel_rfl) (by refine ⟨by simp, ?_⟩; simp (disch := omega) [srcCells, cellsAt, g1, g2, g3, g7, g8, hg, -getElem?_pos, wrapI64, tdivN, tmodN, ipos, ineg, dpos, dneg, slc_l, slc_h, slc_lh, slc_hm, slc_lhm, slc_0, slcR_some, slcR_none, cutS_ok, cutA_ok, byteAt_ok]; first | done | rfl) (by simp [g1, g2, g3, g7, g8, hg]) (by simp [g1, g2, g3, g7, g8, hg]) (by omega) (by omega) fun w1 H3 o1 b1 s1 => ?_
        refine walk (both g1 (both g2 (both g3 (both g7 (both g8 hg))))) ?_
        have hf2 := (hf.push _).app o1 b1 s1
        have e2 : cellsOfBytes ((B.drop off.toNat).take (j + 1)) = cellsOfBytes ((B.drop off.toNat).take j) ++ [AV.int .u8 (B[(off + j).toNat]'(by omega)).toNat] := by
          rw [List.take_add_one, List.getElem?_drop, show off.toNat + j = (off + j).toNat from by omega, hgi, cellsOfBytes_app]; rfl
        rw [← e2] at hf2
        refine Roundq.normal (70000 - (j + 1)) (by omega) ⟨j + 1, w1, by omega, by simp [g1], by simp [g2], by simp [g3], by simp, by simp; omega, rfl, ?_, by have := hf2.keep.next; simp at this; omega, hf2⟩
        rw [b1.2.2 H.next (by simp; omega) (fun e => (hf.ne (b := H.next) (by simp)) e.symm), Heap.get_push, if_neg (by omega)]
        exact hg
      · have hlt' := hlt
        simp only [List.length_take, List.length_drop] at hlt'
        have hje : j = ((B.drop off.toNat).take n.toNat).length := by omega
        have e2 : (B.drop off.toNat).take j = (B.drop off.toNat).take n.toNat := by
          rw [hje, List.length_take]
          by_cases hq : n.toNat ≤ (B.drop off.toNat).length
          · rw [Nat.min_eq_left hq]
          · rw [Nat.min_eq_right (by omega), List.take_of_length_le (Nat.le_refl _), List.take_of_length_le (by omega)]
        by_cases hlen : off + j < B.length
        · have hn2 : n ≤ j := by omega
          refine walk (both g1 (both g2 (both g3 (both g7 (both g8 hg))))) ?_
          rw [e2, hje] at hf
          exact Fresh.after (Upd.rfl.push _) hf
        · refine walk (both g1 (both g2 (both g3 (both g7 (both g8 hg))))) ?_
          rw [e2, hje] at hf
          exact Fresh.after (Upd.rfl.push _) hf

theorem own_ok (B : List UInt8) (Has : List Bool) (hB : B.length ≤ 65536) (hH : Has.length ≤ 2000) (v : AV) (H : Heap) (h : RefR H v B Has) :
    Cl Try.prog pr04 26 [v] H fun w H' => ∃ v1 v2, w = .agg [v1, v2] ∧ Fresh H H' 5 1 v1 B.length (cellsOfBytes B) ∧ Fresh H H' 4 1 v2 Has.length (Has.map AV.bool) ∧ (∀ b, slBlock v1 = some b → slBlock v2 ≠ some b) := by
  obtain ⟨a, c, x, a', c', x', rfl, h1, h2, hLv⟩ := h
  refine Cl.enter Try.func26 rfl rfl Try.ntmps26 (by simp) ?_
  refine walk none0 ?_
  refine Wq.regionM [(0, 0), (1, 0), (2, 0), (3, 0), (4, 0), (5, 0), (6, 2), (7, 0), (8, 0), (9, 0)] (by kernel_rfl) ?_
  refine mwalk none0 ?_
  refine Dq.append (own := (OwnSl.mk (n := 0) (cs := []) (by simp) (by simp) (by simp))) (new := cellsOfBytes B) (q := B.length) rfl met_none (by simp (disch := omega) [-getElem?_pos, wrapI64, tdivN, tmodN, ipos, ineg, dpos, dneg, slc_l, slc_h, slc_lh, slc_hm, slc_lhm, slc_0, slcR_some, slcR_none, cutS_ok, cutA_ok, byteAt_ok]; first | done | (repeat' (first | rfl | apply And.intro))) ⟨_, rfl, by simp; first | done | (repeat' (first | rfl | apply And.intro))⟩ rfl (by kernel_rfl) (by kernel_rfl) ((((h1.push _).push _).push _).src') (by simp) (cellsOfBytes_one _) (by omega) (by omega) fun w1 H1 o1 b1 s1 => ?_
  have hn1 := b1.1
  simp at hn1
  have hg1 : H1.get H.next = some (.cells [.slice a B.length c x, .slice a' Has.length c' x'] 28 true false) := by
    rw [b1.2.2 H.next (by simp <;> omega) (by simp [slBlock] <;> omega)]
    simp (disch := omega) [ineg]
  have hg2 : H1.get (H.next + 1) = some (.cells [.slice none 0 0 none, .slice none 0 0 none] 28 true false) := by
    rw [b1.2.2 (H.next + 1) (by simp <;> omega) (by simp [slBlock] <;> omega)]
    simp (disch := omega) [ineg]
  have k1 : Keep H H1 := (((Upd.rfl.push _).push _).push _).butOne b1 (fun b hb hl => by simp [slBlock] at hb; omega)
  refine mwalk hg1 ?_
  refine Dq.append (own := (OwnSl.mk (n := 0) (cs := []) (by simp) (by simp) (by simp))) (new := Has.map AV.bool) (q := Has.length) rfl met_none (by simp (disch := omega) [-getElem?_pos, wrapI64, tdivN, tmodN, ipos, ineg, dpos, dneg, slc_l, slc_h, slc_lh, slc_hm, slc_lhm, slc_0, slcR_some, slcR_none, cutS_ok, cutA_ok, byteAt_ok]; first | done | (repeat' (first | rfl | apply And.intro))) ⟨_, rfl, by simp; first | done | (repeat' (first | rfl | apply And.intro))⟩ rfl (by kernel_rfl) (by kernel_rfl) (((h2.kept k1).push _).src') (by simp) (by rw [List.all_eq_true]; intro x hx; simp at hx; rcases hx with ⟨_, rfl⟩ | ⟨_, rfl⟩ <;> rfl) (by omega) (by omega) fun w2 H2 o2 b2 s2 => ?_
  have hn2 := b2.1
  simp at hn2
  have hg3 : H2.get (H.next + 1) = some (.cells [.slice none 0 0 none, .slice none 0 0 none] 28 true false) := by
    rw [b2.2.2 (H.next + 1) (by simp; omega) (by simp [slBlock]; omega)]
    simp (disch := omega) [ineg, hg2]
  have k2 : Keep H1 H2 := (Upd.rfl.push _).butOne b2 (fun b hb hl => by simp [slBlock] at hb; omega)
  obtain ⟨wa1, wx1, rfl, _⟩ := o1.form
  obtain ⟨wa2, wx2, rfl, _⟩ := o2.form
  refine mwalk hg3 ?_
  refine walk none0 ?_
  have nb1 : ∀ b, slBlock (.slice wa1 (0 + B.length) (0 + B.length) wx1) = some b → H.next + 2 ≤ b := by
    intro b hb
    rcases s1 with s1 | s1
    · rw [s1] at hb; simp [slBlock] at hb; omega
    · rw [s1] at hb; simp at hb; omega
  have nb2 : ∀ b, slBlock (.slice wa2 (0 + Has.length) (0 + Has.length) wx2) = some b → H1.next ≤ b := by
    intro b hb
    rcases s2 with s2 | s2
    · rw [s2] at hb; simp [slBlock] at hb; omega
    · rw [s2] at hb; simp at hb; omega
  have hlt1 := o1.lt
  rw [Nat.zero_add, List.nil_append] at *
  have k3 : ∀ o, Keep H2 (H2.push o) := fun o => Upd.rfl.push _
  refine ⟨_, _, rfl, ⟨(o1.kept k2).set _ (fun e => by have := nb1 _ e; omega), ((k1.then k2).set _ (by omega) (by omega)), fun b hb => by have := nb1 b hb; omega⟩, ⟨o2.set _ (fun e => by have := nb2 _ e; omega), ((k1.then k2).set _ (by omega) (by omega)), fun b hb => by have := nb2 b hb; omega⟩, fun b hb e => by have := hlt1 b hb; have := nb2 b e; omega⟩
end Go.Abs
