/- Texts on this program, joined. -/
import Derived.Test.YtdndkchlkgldmaaOwn11
import Derived.Test.YtdndkchlkgldmaaKit12
import Derived.Test.YtdndkchlkgldmaaKit04
import Derived.Test.YtdndkchlkgldmaaOwn07
import Derived.Test.YtdndkchlkgldmaaOwn09
import Derived.Test.YtdndkchlkgldmaaRows
import Derived.WalkKit
import Derived.ProofKit
import Derived.OpenShut
import Derived.ShutString
import Derived.ChangeOld
import Derived.Below

/- Chapter 03: strings.FieldsFunc between slashes, walked. -/
namespace Go.Abs
open Go.Proofs
set_option maxRecDepth 100000
set_option linter.unusedVariables false
set_option linter.unusedSimpArgs false

@[simp] theorem strT9 : strT Try.prog 9 = true := by kernel_rfl
theorem sl33_ok (r : Nat) (hr : r ≤ 2147483647) (H : Heap) : Cl Try.prog pr03 33 [.int .i32 r] H fun v H' => v = .bool (decide (r = 47)) ∧ H' = H := by
  refine Cl.enter Try.func33 rfl rfl Try.ntmps33 (by simp) ?_
  refine walk none0 ?_
  exact ⟨by congr 1; simp; omega, rfl⟩
def flatS (sp : List (Nat × Nat)) : List AV := sp.flatMap fun p => [.int .i64 p.1, .int .i64 p.2]
theorem flatS_len (sp : List (Nat × Nat)) : (flatS sp).length = sp.length * 2 := by
  induction sp with
  | nil => rfl
  | cons p sp ih => simp [flatS] at ih ⊢; omega
theorem flatS_app (sp : List (Nat × Nat)) (a b : Nat) : flatS (sp ++ [(a, b)]) = flatS sp ++ [.int .i64 a, .int .i64 b] := by simp [flatS]
def cutP (s : T8) (p : Nat × Nat) : T8 := (s.drop p.1).take (p.2 - p.1)
/-- What is found of the parts so far. -/
structure FF (s : T8) (sp : List (Nat × Nat)) (st : Int) (pos : Nat) : Prop where
  le : pos ≤ s.length
  num : sp.length ≤ pos
  ok : ∀ p ∈ sp, p.1 ≤ p.2 ∧ p.2 ≤ s.length
  lo : -300 ≤ st
  cur : ∃ c, (sp.map (cutP s)) ++ partsFrom c (s.drop pos) = partsOf s ∧ ((st < 0 ∧ c = []) ∨ ∃ a : Nat, st = a ∧ a < pos ∧ c = cutP s (a, pos) ∧ sp.length < pos)
theorem make50 (H : Heap) : makeSliceR Try.prog 50 (some (.int .i64 0)) (some (.int .i64 32)) H = some (.slice (some (H.next, 0)) 0 32 none, H.push (.cells (zeros [.int .i64 0, .int .i64 0] 32) 52 true false)) := by
  rw [makeSliceR_eq elemF50 (by omega)]
  rfl
theorem zeros32 : (zeros [AV.int .i64 0, .int .i64 0] 32).length = 64 := by kernel_rfl
theorem drop_cons {s : T8} {pos : Nat} {c : UInt8} (h : s[pos]? = some c) : s.drop pos = c :: s.drop (pos + 1) := by
  have hl := (List.getElem?_eq_some_iff.1 h)
  obtain ⟨h1, h2⟩ := hl
  rw [List.drop_eq_getElem_cons h1, h2]
theorem FF.start (s : T8) : FF s [] (-1) 0 := ⟨by omega, by simp, by simp, by omega, [], rfl, .inl ⟨by omega, rfl⟩⟩
theorem FF.slash {s : T8} {sp : List (Nat × Nat)} {st : Int} {pos : Nat} (h : FF s sp st pos) (hc : s[pos]? = some 47) (h0 : st < 0) : FF s sp st (pos + 1) := by
  obtain ⟨c, hp, hcur⟩ := h.cur
  have hlt := (List.getElem?_eq_some_iff.1 hc).1
  rcases hcur with ⟨_, rfl⟩ | ⟨a, rfl, _⟩
  · rw [drop_cons hc, partsFrom_slash] at hp
    exact ⟨by omega, by have := h.num; omega, h.ok, h.lo, [], by simpa using hp, .inl ⟨h0, rfl⟩⟩
  · omega
theorem cut_ne {s : T8} {a pos : Nat} (h1 : a < pos) (h2 : pos ≤ s.length) : cutP s (a, pos) ≠ [] := by
  intro h
  have := congrArg List.length h
  simp [cutP] at this
  omega
theorem FF.slashed {s : T8} {sp : List (Nat × Nat)} {a pos : Nat} (h : FF s sp a pos) (hc : s[pos]? = some 47) {st' : Int} (h' : -300 ≤ st') (h0 : st' < 0) : FF s (sp ++ [(a, pos)]) st' (pos + 1) := by
  obtain ⟨c, hp, hcur⟩ := h.cur
  have hlt := (List.getElem?_eq_some_iff.1 hc).1
  rcases hcur with ⟨h1, _⟩ | ⟨b, e, hb, rfl, hn⟩
  · omega
  · obtain rfl : a = b := by omega
    rw [drop_cons hc, partsFrom_slash, if_neg (cut_ne hb (by omega))] at hp
    refine ⟨by omega, by simp; omega, ?_, h', [], by simpa using hp, .inl ⟨h0, rfl⟩⟩
    intro p hp'
    rcases List.mem_append.1 hp' with h1 | h1
    · exact h.ok p h1
    · simp at h1; subst h1; exact ⟨by simp; omega, by simp; omega⟩
theorem cut_more {s : T8} {pos w : Nat} (h : pos + w ≤ s.length) : s.drop pos = cutP s (pos, pos + w) ++ s.drop (pos + w) := by
  unfold cutP
  simp only [Nat.add_sub_cancel_left]
  rw [← List.drop_drop, List.take_append_drop]
theorem cut_join {s : T8} {a pos w : Nat} (h : a ≤ pos) (h2 : pos + w ≤ s.length) : cutP s (a, pos) ++ cutP s (pos, pos + w) = cutP s (a, pos + w) := by
  unfold cutP
  simp only [Nat.add_sub_cancel_left]
  rw [show pos + w - a = (pos - a) + w by omega, List.take_add, List.drop_drop, show a + (pos - a) = pos by omega]
theorem FF.word {s : T8} {sp : List (Nat × Nat)} {st : Int} {pos w : Nat} (h : FF s sp st pos) (hw : 1 ≤ w) (hle : pos + w ≤ s.length) (hno : ∀ j, pos ≤ j → j < pos + w → s[j]? ≠ some 47) {st' : Int} (hs : (st < 0 ∧ st' = pos) ∨ (0 ≤ st ∧ st' = st)) : FF s sp st' (pos + w) := by
  obtain ⟨c, hp, hcur⟩ := h.cur
  have hnw : ∀ x ∈ cutP s (pos, pos + w), x ≠ 47 := by
    intro x hx e
    subst e
    obtain ⟨j, hj⟩ := List.mem_iff_getElem?.1 hx
    unfold cutP at hj
    rw [List.getElem?_take, List.getElem?_drop] at hj
    split at hj
    · exact hno (pos + j) (by omega) (by omega) hj
    · cases hj
  rw [cut_more hle, partsFrom_word hnw] at hp
  refine ⟨hle, by have := h.num; omega, h.ok, ?_, _, hp, .inr ?_⟩
  · rcases hs with ⟨_, rfl⟩ | ⟨_, rfl⟩ <;> omega
  rcases hcur with ⟨h0, rfl⟩ | ⟨a, rfl, ha, rfl, hn⟩
  · rcases hs with ⟨_, rfl⟩ | ⟨h1, _⟩
    · exact ⟨pos, rfl, by omega, by simp, by have := h.num; omega⟩
    · omega
  · rcases hs with ⟨h1, _⟩ | ⟨_, rfl⟩
    · omega
    · exact ⟨a, rfl, by omega, cut_join (by omega) hle, by omega⟩
theorem FF.done {s : T8} {sp : List (Nat × Nat)} {st : Int} (h : FF s sp st s.length) : (st < 0 ∧ sp.map (cutP s) = partsOf s) ∨ ∃ a : Nat, st = a ∧ a < s.length ∧ (sp ++ [(a, s.length)]).map (cutP s) = partsOf s := by
  obtain ⟨c, hp, hcur⟩ := h.cur
  rw [List.drop_length, partsFrom_nil] at hp
  rcases hcur with ⟨h0, rfl⟩ | ⟨a, rfl, ha, rfl, hn⟩
  · exact .inl ⟨h0, by simpa using hp⟩
  · rw [if_neg (cut_ne ha (Nat.le_refl _))] at hp
    exact .inr ⟨a, rfl, ha, by simpa using hp⟩
theorem xor_ok (a : Nat) (ha : a < 300) (H : Heap) : unR .xor (some (.int .i64 (a : Int))) H = some (.int .i64 (-1 - (a : Int)), H) := by
  rw [unR_xor]
  have h1 : (BitVec.ofInt IntKind.i64.bits (if IntKind.i64.signed = true then -1 else IntKind.i64.max) ^^^ BitVec.ofInt IntKind.i64.bits (a : Int)).toNat = 2 ^ 64 - 1 - a := by
    show (BitVec.ofInt 64 (-1) ^^^ BitVec.ofInt 64 (a : Int)).toNat = 2 ^ 64 - 1 - a
    rw [show BitVec.ofInt 64 (-1) = BitVec.allOnes 64 by decide, BitVec.ofInt_natCast, BitVec.allOnes_xor, BitVec.toNat_not, BitVec.toNat_ofNat, Nat.mod_eq_of_lt (by omega)]
  rw [h1]
  congr 2
  simp [IntKind.wrap, IntKind.signed, IntKind.bits]
  omega
theorem make50' : ∃ Z : List AV, Z.length = 64 ∧ ∀ H, makeSliceR Try.prog 50 (some (.int .i64 0)) (some (.int .i64 32)) H = some (.slice (some (H.next, 0)) 0 32 none, H.push (.cells Z 52 true false)) := ⟨_, zeros32, make50⟩
theorem zeros_strs : ∀ n, zeros [.str []] n = strs (List.replicate n [])
  | 0 => rfl
  | n + 1 => by rw [List.replicate_succ]; simp only [zeros, strs, List.map_cons, List.cons_append, List.nil_append]; rw [zeros_strs n]; rfl
theorem makeStrs26 (n : Nat) (hn : n ≤ 1000001) (H : Heap) : makeSliceR Try.prog 26 (some (.int .i64 n)) (some (.int .i64 n)) H = some (.slice (some (H.next, 0)) n n none, H.push (.cells (strs (List.replicate n [])) 9 true false)) := by
  rw [makeSliceR_eq elemF26 (by omega)]
  rw [← zeros_strs, Int.toNat_natCast]
theorem fillS {f : Nat × Nat → Txt} {sp : List (Nat × Nat)} {i : Nat} {p : Nat × Nat} (h : sp[i]? = some p) : (strs (List.take i (List.map f sp) ++ List.replicate (sp.length - i) [])).set i (.str (f p)) = strs ((sp.take (i + 1)).map f ++ List.replicate (sp.length - (i + 1)) []) := by
  have hi := (List.getElem?_eq_some_iff.1 h).1
  have hl : (List.take i (List.map f sp)).length = i := by simp; omega
  have e1 : (sp.take (i + 1)).map f = List.take i (List.map f sp) ++ [f p] := by
    rw [List.take_add_one, h, List.map_append, List.map_take]; rfl
  obtain ⟨m, hm⟩ : ∃ m, sp.length - i = m + 1 := ⟨sp.length - i - 1, by omega⟩
  rw [e1, hm, show sp.length - (i + 1) = m by omega]
  unfold strs
  rw [← List.map_set]
  rw [List.set_append_right _ _ (by omega), hl, Nat.sub_self, List.replicate_succ, List.set_cons_zero, List.append_assoc]
  rfl
theorem strs_set (l : List Txt) (i : Nat) (x : Txt) : (strs l).set i (.str x) = strs (l.set i x) := by unfold strs; rw [List.map_set]
theorem fieldsFunc_ok (s : T8) (hs : s.length ≤ 256) (H : Heap) : Cl Try.prog pr03 32 [.str s, .func (.func 33) [] []] H fun r H' => Keep H H' ∧ Ss H' r (partsOf s) ∧ ∀ z, slBlock r = some z → H.next ≤ z := by
  obtain ⟨Z, hZ, hmk⟩ := make50'
  refine Cl.enter Try.func32 rfl rfl Try.ntmps32 (by simp) ?_
  refine walk hmk ?_
  refine Wq.loop (fun m e H' => ∃ (pos : Nat) (sp : List (Nat × Nat)) (st : Int) (w : AV), FF s sp st pos ∧ m = s.length - pos ∧ H'.get (H.next + 1) = some (.iter s pos) ∧ FreshG H H' 52 2 w sp.length (flatS sp) ∧
    (∀ z, slBlock w = some z → z ≠ H.next + 1 ∧ z < H'.next) ∧ H.next + 2 ≤ H'.next ∧ e 0 = .str s ∧ e 1 = .func (.func 33) [] [] ∧ e 5 = w ∧ e 6 = .int .i64 st ∧ e 14 = .ptr (some (H.next + 1, 0))) s.length ?_ ?_
  · refine ⟨0, [], -1, _, FF.start s, by omega, by simp, ⟨.inr ⟨H.next, 0, Z, 32, none, rfl, by simp, .inl rfl, by simp; omega, ?_, by omega, by simp [flatS]⟩, (Upd.rfl.push _).push _, by simp [slBlock]⟩, by simp [slBlock]; omega, by simp, by simp, by simp, by simp, by simp, by simp⟩
    rw [Heap.get_push, if_neg (by simp), Heap.get_push, if_pos rfl]
  · rintro m e H' ⟨pos, sp, st, w, hff, rfl, gI, hF, hz, hn, g0, g1, g5, g6, g14⟩
    have hle := hff.le
    obtain ⟨wa, wc, wx, rfl, hwc, hwx⟩ := hF.own.form
    by_cases hlt : pos < s.length
    · obtain ⟨r, k, hd, hk1, hk2, hr, hrk⟩ := runeAt s pos hlt
      have hnx := nextR_more gI hlt hd
      refine walk (both g0 (both g1 (both g5 (both g6 (both g14 hnx))))) ?_
      have gI2 : (H'.set (H.next + 1) (.iter s (pos + k))).get (H.next + 1) = some (.iter s (pos + k)) := Heap.get_set_same _ _ _
      have hF2 := hF.set (b := H.next + 1) (.iter s (pos + k)) (by omega) (by omega) (fun e => (hz _ e).1 rfl)
      have hz2 : ∀ z, slBlock (.slice wa sp.length wc wx) = some z → z ≠ H.next + 1 ∧ z < (H'.set (H.next + 1) (.iter s (pos + k))).next := by simpa using hz
      have hn2 : H.next + 2 ≤ (H'.set (H.next + 1) (.iter s (pos + k))).next := by simpa using hn
      generalize H'.set (H.next + 1) (.iter s (pos + k)) = H2 at *
      refine (sl33_ok r hr H2).mono fun v H3 _ ⟨e1, e2⟩ => ?_
      subst e1; subst e2
      have hlo := hff.lo
      by_cases h47 : r = 47
      · have hc : s[pos]? = some 47 ∧ k = 1 := by
          rcases hrk with ⟨c, hc, h1, h2, h3⟩ | ⟨h1, _⟩
          · refine ⟨?_, h3⟩
            rw [hc]
            congr 1
            apply UInt8.toNat_inj.1
            simpa using h2.symm.trans h47
          · omega
        obtain ⟨hc, rfl⟩ := hc
        subst h47
        by_cases h0 : st < 0
        · have h0' : ¬ 0 ≤ st := by omega
          refine walk (both g0 (both g1 (both g5 (both g6 (both g14 (both h0 h0')))))) ?_
          exact Roundq.normal (s.length - (pos + 1)) (by omega) ⟨pos + 1, sp, st, _, hff.slash hc h0, rfl, gI2, hF2, hz2, hn2, by simp [g0], by simp [g1], by simp [g5], by simp [g6], by simp [g14]⟩
        · have h0' : 0 ≤ st := by omega
          obtain ⟨a, rfl⟩ : ∃ a : Nat, st = a := ⟨st.toNat, by omega⟩
          have ha : a < pos := by
            obtain ⟨c, _, h | ⟨b, e, hb, _⟩⟩ := hff.cur <;> omega
          have hnum := hff.num
          refine walk (both g0 (both g1 (both g5 (both g6 (both g14 h0'))))) ?_
          have kB : Keep H3 (H3.push (.cells [.int .i64 a, .int .i64 pos] 52 true false)) := Upd.rfl.push _
          refine Oq.appendL (own := (hF2.own.kept kB)) (new := [.int .i64 a, .int .i64 pos]) (m := 1) (by simp (disch := omega) [g5, -getElem?_pos, wrapI64, tdivN, tmodN, ipos, ineg, dpos, dneg, slc_l, slc_h, slc_lh, slc_hm, slc_lhm, slc_0, slcR_some, slcR_none, cutS_ok, cutA_ok, byteAt_ok]; first | done | (repeat' (first | rfl | apply And.intro))) ⟨_, rfl, by simp; first | done | (repeat' (first | rfl | apply And.intro))⟩ rfl (by kernel_rfl) (by kernel_rfl) (by refine ⟨by simp, ?_⟩; simp (disch := omega) [srcCells, cellsAt, g5, -getElem?_pos, wrapI64, tdivN, tmodN, ipos, ineg, dpos, dneg, slc_l, slc_h, slc_lh, slc_hm, slc_lhm, slc_0, slcR_some, slcR_none, cutS_ok, cutA_ok, byteAt_ok]; first | done | rfl) (by simp [g5]) (by simp [g5]) (by omega) (by omega) fun w1 H4 o1 b1 s1 l1 => ?_
          have hxor := xor_ok a (by omega)
          obtain ⟨wa1, wc1, wx1, rfl, _⟩ := o1.form
          refine walk (both g6 hxor) ?_
          have hn4 : H3.next + 1 ≤ H4.next := by have := b1.1; simpa using this
          refine Roundq.normal (s.length - (pos + 1)) (by omega) ⟨pos + 1, sp ++ [(a, pos)], -1 - (a : Int), .slice wa1 (sp.length + 1) wc1 wx1, hff.slashed hc (by omega) (by omega), rfl, ?_, ?_, ?_, by omega, by simp [g0], by simp [g1], ?_, by simp, by simp [g14]⟩
          · rw [b1.2.2 (H.next + 1) (by simp; omega) (fun e => by have := (hz2 _ e.symm).1; omega), Heap.get_push, if_neg (by omega)]
            exact gI2
          · rw [flatS_app, List.length_append]
            exact (hF2.then kB).app o1 b1 s1
          · intro z hz1
            have := l1 z hz1
            rcases s1 with e | e
            · rw [e] at hz1
              have h2 := hz2 z hz1
              omega
            · rw [e] at hz1
              simp at hz1
              rcases l1 z (e.trans (by simp [hz1])) with h3 | h3
              · have h2 := hz2 z h3; omega
              · omega
          · simp
      · have hno : ∀ j, pos ≤ j → j < pos + k → s[j]? ≠ some 47 := by
          intro j h1 h2 e
          rcases hrk with ⟨c, hc, h3, h4, h5⟩ | ⟨h3, h4⟩
          · obtain rfl : j = pos := by omega
            rw [hc] at e
            injection e with e
            subst e
            exact h47 (by simpa using h4)
          · obtain ⟨c, hc, h5⟩ := h4 j h1 h2
            rw [hc] at e
            injection e with e
            subst e
            simp at h5
        by_cases h0 : st < 0
        · refine walk (both g0 (both g1 (both g5 (both g6 (both g14 (both h0 h47)))))) ?_
          exact Roundq.normal (s.length - (pos + k)) (by omega) ⟨pos + k, sp, pos, _, hff.word hk1 hk2 hno (.inl ⟨h0, rfl⟩), rfl, gI2, hF2, hz2, hn2, by simp [g0], by simp [g1], by simp [g5], by simp, by simp [g14]⟩
        · refine walk (both g0 (both g1 (both g5 (both g6 (both g14 (both h0 h47)))))) ?_
          exact Roundq.normal (s.length - (pos + k)) (by omega) ⟨pos + k, sp, st, _, hff.word hk1 hk2 hno (.inr ⟨by omega, rfl⟩), rfl, gI2, hF2, hz2, hn2, by simp [g0], by simp [g1], by simp [g5], by simp [g6], by simp [g14]⟩
    · obtain rfl : pos = s.length := by omega
      have hnx := nextR_end gI hlt
      have hlo := hff.lo
      have hnum := hff.num
      have hok5 := hff.ok
      rcases hff.done with ⟨h0, hdone⟩ | ⟨a, rfl, ha, hdone⟩
      · have h0' : ¬ 0 ≤ st := by omega
        have hmk2 := makeStrs26 sp.length (by omega) H'
        refine walk (both g0 (both g1 (both g5 (both g6 (both g14 (both hnx (both h0' hmk2))))))) ?_
        have hbk : H'.next < (H'.push (.cells (strs (List.replicate sp.length [])) 9 true false)).next := by simp
        have kC : Keep H' (H'.push (.cells (strs (List.replicate sp.length [])) 9 true false)) := Upd.rfl.push _
        have gA : (H'.push (.cells (strs (List.replicate sp.length [])) 9 true false)).get H'.next = some (.cells (strs (List.replicate sp.length [])) 9 true false) := by simp
        generalize H'.push (.cells (strs (List.replicate sp.length [])) 9 true false) = H6 at *
        have hsl5 := hF.own.sl
        refine Wq.loop (fun m e Hq => ∃ i : Nat, i ≤ sp.length ∧ m = sp.length - i ∧ Keep H' Hq ∧ H'.next < Hq.next ∧ Hq.get H'.next = some (.cells (strs ((sp.take i).map (cutP s) ++ List.replicate (sp.length - i) [])) 9 true false) ∧
          e 0 = .str s ∧ e 9 = .slice (some (H'.next, 0)) sp.length sp.length none ∧ e 47 = .slice wa sp.length wc wx ∧ e 48 = .int .i64 sp.length ∧ e 49 = .int .i64 i) sp.length ?_ ?_
        · exact ⟨0, by omega, by omega, kC, hbk, by simpa using gA, by simp [g0], by simp, by simp, by simp, by simp⟩
        · rintro m e Hq ⟨i, hi, rfl, kD, hbn, gA, q0, q9, q47, q48, q49⟩
          by_cases hlt2 : i < sp.length
          · obtain ⟨p, hp⟩ := get_lt' (l := sp) (i := i) (by omega)
            obtain ⟨p1, p2⟩ := p
            obtain ⟨hp1, hp2⟩ := hok5 _ (List.mem_of_getElem? hp)
            simp only [] at hp1 hp2
            obtain ⟨b, o, c, t, w, mk, rfl, h1, h2, h3, h4⟩ := Sl.at hsl5 (by omega)
            have h5 := (sub_take h4 (i := i * 2) (k := 2) (by omega)).trans (flat_take (enc := fun p : Nat × Nat => [.int .i64 p.1, .int .i64 p.2]) (fun _ => rfl) hp)
            have h2' := (kD.get h1).trans h2
            have hfit : o + (i * 2 + 2) ≤ c.length := by omega
            have hone : p1 ≤ s.length := by omega
            have hct : List.drop p1 (List.take p2 s) = cutP s (p1, p2) := List.drop_take
            have hfl := fillS (f := cutP s) hp
            refine walk (both q0 (both q9 (both q47 (both q48 (both q49 (both hlt2 (both h2' (both h5 (both hfit (both gA (both hp1 (both hp2 hone)))))))))))) ?_
            rw [hct, hfl]
            refine Roundq.normal (sp.length - (i + 1)) (by omega) ⟨i + 1, by omega, rfl, ((kD.push _).set _ (by simp) (by omega)).set _ (by simp; omega) (by omega), by simp; omega, Heap.get_set_same _ _ _, by simp [q0], by simp [q9], by simp [q47], by simp [q48], by simp⟩
          · obtain rfl : i = sp.length := by omega
            refine walk (both q0 (both q9 (both q47 (both q48 q49)))) ?_
            rw [List.take_length, Nat.sub_self, List.replicate_zero, List.append_nil, hdone] at gA
            have hln : sp.length = (partsOf s).length := by rw [← hdone]; simp
            refine ⟨hF.keep.then kD, ?_, by have hk := hF.keep.next; rw [hln]; simp [slBlock]; omega⟩
            rw [hln]
            unfold Ss Sl
            exact ⟨by simp, .inr ⟨H'.next, 0, _, none, rfl, Nat.le_refl _, .inl rfl, fun _ => ⟨hbn, _, 9, true, false, gA, by simp, by simp [List.take_of_length_le]⟩⟩⟩
      · have h0' : (0 : Int) ≤ (a : Int) := by omega
        refine walk (both g0 (both g1 (both g5 (both g6 (both g14 (both hnx h0')))))) ?_
        have kB : Keep H' (H'.push (.cells [.int .i64 a, .int .i64 s.length] 52 true false)) := Upd.rfl.push _
        refine Oq.appendL (own := (hF.own.kept kB)) (new := [.int .i64 a, .int .i64 s.length]) (m := 1) (by simp (disch := omega) [g5, -getElem?_pos, wrapI64, tdivN, tmodN, ipos, ineg, dpos, dneg, slc_l, slc_h, slc_lh, slc_hm, slc_lhm, slc_0, slcR_some, slcR_none, cutS_ok, cutA_ok, byteAt_ok]; first | done | (repeat' (first | rfl | apply And.intro))) ⟨_, rfl, by simp; first | done | (repeat' (first | rfl | apply And.intro))⟩ rfl (by kernel_rfl) (by kernel_rfl) (by refine ⟨by simp, ?_⟩; simp (disch := omega) [srcCells, cellsAt, g5, -getElem?_pos, wrapI64, tdivN, tmodN, ipos, ineg, dpos, dneg, slc_l, slc_h, slc_lh, slc_hm, slc_lhm, slc_0, slcR_some, slcR_none, cutS_ok, cutA_ok, byteAt_ok]; first | done | rfl) (by simp [g5]) (by simp [g5]) (by omega) (by omega) fun w1 H4 o1 b1 s1 l1 => ?_
        have hF4 := (hF.then kB).app o1 b1 s1
        rw [← flatS_app] at hF4
        obtain ⟨wa1, wc1, wx1, rfl, _⟩ := o1.form
        have hnsp : sp.length + 1 = (sp ++ [(a, s.length)]).length := by simp
        have hok4 : ∀ p ∈ sp ++ [(a, s.length)], p.1 ≤ p.2 ∧ p.2 ≤ s.length := by
          intro p hp
          rcases List.mem_append.1 hp with h | h
          · exact hok5 p h
          · simp at h; subst h; simp; omega
        rw [hnsp] at hF4 ⊢
        have hmk2 := makeStrs26 (sp ++ [(a, s.length)]).length (by simp; omega) H4
        generalize sp ++ [(a, s.length)] = sp2 at *
        clear hff hF gI hz o1 l1 b1
        have hmk2' := hmk2
        refine walk (both g0 hmk2) ?_
        have hbk : H4.next < (H4.push (.cells (strs (List.replicate sp2.length [])) 9 true false)).next := by simp
        have kC : Keep H4 (H4.push (.cells (strs (List.replicate sp2.length [])) 9 true false)) := Upd.rfl.push _
        have gA : (H4.push (.cells (strs (List.replicate sp2.length [])) 9 true false)).get H4.next = some (.cells (strs (List.replicate sp2.length [])) 9 true false) := by simp
        generalize H4.push (.cells (strs (List.replicate sp2.length [])) 9 true false) = H6 at *
        have hsl5 := hF4.own.sl
        refine Wq.loop (fun m e Hq => ∃ i : Nat, i ≤ sp2.length ∧ m = sp2.length - i ∧ Keep H4 Hq ∧ H4.next < Hq.next ∧ Hq.get H4.next = some (.cells (strs ((sp2.take i).map (cutP s) ++ List.replicate (sp2.length - i) [])) 9 true false) ∧
          e 0 = .str s ∧ e 9 = .slice (some (H4.next, 0)) sp2.length sp2.length none ∧ e 47 = .slice wa1 sp2.length wc1 wx1 ∧ e 48 = .int .i64 sp2.length ∧ e 49 = .int .i64 i) sp2.length ?_ ?_
        · exact ⟨0, by omega, by omega, kC, hbk, by simpa using gA, by simp [g0], by simp, by simp, by simp, by simp⟩
        · rintro m e Hq ⟨i, hi, rfl, kD, hbn, gA, q0, q9, q47, q48, q49⟩
          by_cases hlt2 : i < sp2.length
          · obtain ⟨p, hp⟩ := get_lt' (l := sp2) (i := i) (by omega)
            obtain ⟨p1, p2⟩ := p
            obtain ⟨hp1, hp2⟩ := hok4 _ (List.mem_of_getElem? hp)
            simp only [] at hp1 hp2
            obtain ⟨b, o, c, t, w, mk, rfl, h1, h2, h3, h4⟩ := Sl.at hsl5 (by omega)
            have h5 := (sub_take h4 (i := i * 2) (k := 2) (by omega)).trans (flat_take (enc := fun p : Nat × Nat => [.int .i64 p.1, .int .i64 p.2]) (fun _ => rfl) hp)
            have h2' := (kD.get h1).trans h2
            have hfit : o + (i * 2 + 2) ≤ c.length := by omega
            have hone : p1 ≤ s.length := by omega
            have hct : List.drop p1 (List.take p2 s) = cutP s (p1, p2) := List.drop_take
            have hfl := fillS (f := cutP s) hp
            refine walk (both q0 (both q9 (both q47 (both q48 (both q49 (both hlt2 (both h2' (both h5 (both hfit (both gA (both hp1 (both hp2 hone)))))))))))) ?_
            rw [hct, hfl]
            refine Roundq.normal (sp2.length - (i + 1)) (by omega) ⟨i + 1, by omega, rfl, ((kD.push _).set _ (by simp) (by omega)).set _ (by simp; omega) (by omega), by simp; omega, Heap.get_set_same _ _ _, by simp [q0], by simp [q9], by simp [q47], by simp [q48], by simp⟩
          · obtain rfl : i = sp2.length := by omega
            refine walk (both q0 (both q9 (both q47 (both q48 q49)))) ?_
            rw [List.take_length, Nat.sub_self, List.replicate_zero, List.append_nil, hdone] at gA
            have hln : sp2.length = (partsOf s).length := by rw [← hdone]; simp
            refine ⟨hF4.keep.then kD, ?_, by have hk := hF4.keep.next; rw [hln]; simp [slBlock]; omega⟩
            rw [hln]
            unfold Ss Sl
            exact ⟨by simp, .inr ⟨H4.next, 0, _, none, rfl, Nat.le_refl _, .inl rfl, fun _ => ⟨hbn, _, 9, true, false, gA, by simp, by simp [List.take_of_length_le]⟩⟩⟩
end Go.Abs

/- Chapter 03: path.Parse, walked. -/
namespace Go.Abs
open Go.Proofs
set_option maxRecDepth 100000
set_option linter.unusedVariables false
set_option linter.unusedSimpArgs false

theorem ib60_ok (s : List UInt8) (c : UInt8) (H : Heap) : Cl Try.prog pr03 60 [.str s, .int .u8 c.toNat] H fun v H' => v = .int .i64 (Lib.indexByte s c) ∧ H' = H := by
  refine Cl.prim (v := .int .i64 (Lib.indexByte s c)) (H' := H) (g := fun args H => match ibAV args with | some v => some (v, H) | none => none) rfl ?_ ⟨rfl, rfl⟩
  simp [ibAV]
theorem ib56_ok (s : List UInt8) (c : UInt8) (H : Heap) : Cl Try.prog pr03 56 [.str s, .int .u8 c.toNat] H fun v H' => v = .int .i64 (Lib.indexByte s c) ∧ H' = H := by
  refine Cl.enter Try.func56 rfl rfl Try.ntmps56 (by simp) ?_
  refine walk none0 ?_
  refine (ib60_ok s c H).mono fun v H1 _ ⟨e1, e2⟩ => ?_
  subst e1; subst e2
  refine walk none0 ?_
  exact ⟨rfl, rfl⟩
theorem index49_ok (s : List UInt8) (c : UInt8) (H : Heap) : Cl Try.prog pr03 49 [.str s, .str [c]] H fun v H' => v = .int .i64 (Lib.indexByte s c) ∧ H' = H := by
  have hl : ([c] : List UInt8).length = 1 := rfl
  have h0 : ([c] : List UInt8)[0]? = some c := rfl
  have he : s = [c] → Lib.indexByte s c = 0 := by rintro rfl; simp [Lib.indexByte]
  generalize ([c] : List UInt8) = p at *
  have hne : ¬ p = [] := by rintro rfl; simp at hl
  refine Cl.enter Try.func49 rfl rfl Try.ntmps49 (by simp) ?_
  refine walk hl ?_
  by_cases h : p = s
  · subst h
    refine walk hl ?_
    exact ⟨by rw [he rfl], rfl⟩
  · refine walk (both h (both hl h0)) ?_
    refine (ib56_ok s c H).mono fun v H1 _ ⟨e1, e2⟩ => ?_
    subst e1; subst e2
    refine walk none0 ?_
    exact ⟨rfl, rfl⟩
theorem ib_in (s : List UInt8) (c : UInt8) : 0 ≤ Lib.indexByte s c ↔ c ∈ s := by
  have h := Lib.contains_iff_indexByte s c
  rw [Bool.eq_iff_iff, List.contains_iff_mem, decide_eq_true_eq] at h
  exact h.symm
theorem contains31_ok (s : List UInt8) (H : Heap) : Cl Try.prog pr03 31 [.str s, .str [0]] H fun v H' => v = .bool (decide ((0 : UInt8) ∈ s)) ∧ H' = H := by
  refine Cl.enter Try.func31 rfl rfl Try.ntmps31 (by simp) ?_
  refine walk none0 ?_
  have h40 : Cl Try.prog pr03 40 [.str s, .str [0]] H fun v H' => v = .int .i64 (Lib.indexByte s 0) ∧ H' = H := by
    refine Cl.enter Try.func40 rfl rfl Try.ntmps40 (by simp) ?_
    refine walk none0 ?_
    refine (index49_ok s 0 H).mono fun v H1 _ ⟨e1, e2⟩ => ?_
    subst e1; subst e2
    refine walk none0 ?_
    exact ⟨rfl, rfl⟩
  refine h40.mono fun v H1 _ ⟨e1, e2⟩ => ?_
  subst e1; subst e2
  have hi := ib_in s 0
  by_cases h : (0 : UInt8) ∈ s
  · have h' := hi.2 h
    refine walk h' ?_
    exact ⟨by rw [decide_eq_true h], rfl⟩
  · have h' : ¬ 0 ≤ Lib.indexByte s 0 := fun e => h (hi.1 e)
    refine walk h' ?_
    exact ⟨by rw [decide_eq_false h], rfl⟩
def longP (s : Txt) : Bool := decide (32 < s.length)
theorem long_tells : Tells 24 longP := by
  intro s H
  refine (long_ok s H).mono fun v H1 _ ⟨e1, e2⟩ => ⟨?_, e2⟩
  rw [e1]
  congr 1
  unfold longP
  simp only [decide_eq_decide]
  omega
theorem anyLong_ok {H : Heap} {v : AV} {l : List Txt} (h : Ss H v l) (hL : l.length ≤ 100000) : Cl Try.prog pr03 34 [v, .func (.func 24) [] []] H fun w H' => w = .bool (decide (∃ x ∈ l, 32 < x.length)) ∧ H' = H := by
  obtain ⟨a, cap, ex, rfl, hc, hex⟩ := h.form
  refine Cl.enter Try.func34 rfl rfl Try.ntmps34 (by simp) ?_
  refine walk none0 ?_
  refine (idxFunc_ok long_tells h hL).mono fun w H1 _ hw => ?_
  obtain ⟨e1, hw⟩ := hw
  subst e1
  rcases hw with ⟨rfl, hw⟩ | ⟨i, x, rfl, hi, hx, _⟩
  · have hn : ¬ ∃ x ∈ l, 32 < x.length := by
      rintro ⟨x, hx, h'⟩
      have := hw x hx
      unfold longP at this
      simp at this
      omega
    refine walk none0 ?_
    exact ⟨by rw [decide_eq_false hn], rfl⟩
  · have hn : ∃ x ∈ l, 32 < x.length := ⟨x, List.mem_of_getElem? hi, by unfold longP at hx; simpa using hx⟩
    refine walk none0 ?_
    exact ⟨by rw [decide_eq_true hn], rfl⟩
def parseP (s : T8) : Bool × Bool × List T8 := if parseE s = 0 then pathT s else (false, false, [])
theorem head_at {s : T8} (h : s ≠ []) : ∃ c, s[0]? = some c ∧ (s.head? == some 47) = decide (c = 47) := by
  cases s with
  | nil => exact absurd rfl h
  | cons c r => exact ⟨c, rfl, by by_cases h' : c = 47 <;> simp [h']⟩
theorem last_at {s : T8} (h : s ≠ []) : ∃ c, s[s.length - 1]? = some c ∧ (s.getLast? == some 47) = decide (c = 47) := by
  have hl : 0 < s.length := List.length_pos_iff.2 h
  obtain ⟨c, hc⟩ := get_lt' (l := s) (i := s.length - 1) (by omega)
  refine ⟨c, hc, ?_⟩
  rw [List.getLast?_eq_getElem?, hc]
  by_cases h' : c = 47 <;> simp [h']
theorem u8_dec (c : UInt8) : decide ((c.toNat : Int) = 47) = decide (c = 47) := by
  by_cases h : c = 47
  · subst h; rfl
  · rw [decide_eq_false h, decide_eq_false]
    intro e
    exact h (UInt8.toNat_inj.1 (by simpa using (by omega : c.toNat = 47)))
theorem parse_ok (s : T8) (H : Heap) : Cl Try.prog pr03 18 [.str s] H fun r H' => Keep H H' ∧ ∃ v, r = .tuple [.agg [.bool (parseP s).1, .bool (parseP s).2.1, v], .int .i64 (parseE s)] ∧ Ss H' v (parseP s).2.2 := by
  have nil0 : ∀ H : Heap, Ss H (.slice none 0 0 none) [] := fun H => Sl.nil
  refine Cl.enter Try.func18 rfl rfl Try.ntmps18 (by simp) ?_
  by_cases h0 : s = []
  · have e : parseE s = 2 := if_pos h0
    have ep : parseP s = (false, false, []) := by unfold parseP; rw [e]; rfl
    rw [e, ep]
    subst h0
    refine walk none0 ?_
    exact ⟨(Upd.rfl.push _).set _ (by simp) (by omega), _, rfl, nil0 _⟩
  · by_cases h1 : 256 < s.length
    · have e : parseE s = 63 := by unfold parseE; rw [if_neg h0, if_pos h1]
      have ep : parseP s = (false, false, []) := by unfold parseP; rw [e]; rfl
      rw [e, ep]
      refine walk (both h0 h1) ?_
      exact ⟨(Upd.rfl.push _).set _ (by simp) (by omega), _, rfl, nil0 _⟩
    · refine walk (both h0 h1) ?_
      refine (contains31_ok s _).mono fun v H1 _ ⟨e1, e2⟩ => ?_
      subst e1; subst e2
      by_cases h2 : (0 : UInt8) ∈ s
      · have e : parseE s = 22 := by unfold parseE; rw [if_neg h0, if_neg h1, if_pos h2]
        have ep : parseP s = (false, false, []) := by unfold parseP; rw [e]; rfl
        rw [e, ep]
        refine walk h2 ?_
        exact ⟨(Upd.rfl.push _).set _ (by simp) (by omega), _, rfl, nil0 _⟩
      · refine walk h2 ?_
        have gz : (H.push (.cells [.bool false, .bool false, .slice none 0 0 none] 28 true false)).get H.next = some (.cells [.bool false, .bool false, .slice none 0 0 none] 28 true false) := by simp
        have nz : H.next < (H.push (.cells [.bool false, .bool false, .slice none 0 0 none] 28 true false)).next := by simp
        have kz : Keep H (H.push (.cells [.bool false, .bool false, .slice none 0 0 none] 28 true false)) := Upd.rfl.push _
        generalize H.push (.cells [.bool false, .bool false, .slice none 0 0 none] 28 true false) = H1 at *
        refine (fieldsFunc_ok s (by omega) H1).mono fun v H2 _ ⟨kA, hs, hnew⟩ => ?_
        have g2 := (kA.get nz).trans gz
        have n2 : H.next < H2.next := by have := kA.next; omega
        have hpl : (partsOf s).length ≤ 256 := by have := partsFrom_len s []; unfold partsOf; simp at this; omega
        obtain ⟨va, cap, ex, rfl, hc, hex⟩ := hs.form
        refine walk none0 ?_
        refine (anyLong_ok hs (by omega)).mono fun w H3 _ ⟨e1, e2⟩ => ?_
        subst e1; subst e2
        by_cases h3 : ∃ x ∈ partsOf s, 32 < x.length
        · have e : parseE s = 63 := by unfold parseE; rw [if_neg h0, if_neg h1, if_neg h2, if_pos h3]
          have ep : parseP s = (false, false, []) := by unfold parseP; rw [e]; rfl
          rw [e, ep, decide_eq_true h3]
          refine walk g2 ?_
          exact ⟨(kz.then kA).set _ n2 (by omega), _, rfl, nil0 _⟩
        · have e : parseE s = 0 := by unfold parseE; rw [if_neg h0, if_neg h1, if_neg h2, if_neg h3]
          have ep : parseP s = pathT s := by unfold parseP; rw [e]; rfl
          rw [e, ep, decide_eq_false h3]
          obtain ⟨c, hc0, ec⟩ := head_at h0
          obtain ⟨d, hd0, ed⟩ := last_at h0
          unfold pathT
          rw [ec, ed]
          have hsl : 0 < s.length := List.length_pos_iff.2 h0
          have u1 := u8_dec c
          have u2 := u8_dec d
          generalize partsOf s = l at *
          by_cases hl : l = []
          · subst hl
            refine walk none0 ?_
            refine Wq.regionD [0, 1, 2, 3, 4, 5, 6, 7, 8, 9, 10, 11, 12, 13, 14, 15, 16, 17] (by kernel_rfl) ?_
            refine walk (both hc0 (both hd0 (both hsl (both g2 (both u1 u2))))) ?_
            refine ⟨(kz.then kA).set _ n2 (by omega), _, rfl, Sl.set hs _ (fun e => by have := hnew _ e; omega)⟩
          · have hl' : 0 < l.length := List.length_pos_iff.2 hl
            refine walk none0 ?_
            refine Wq.regionD [0, 1, 2, 3, 4, 5, 6, 7, 8, 9, 10, 11, 12, 13, 14, 15, 16, 17] (by kernel_rfl) ?_
            refine walk (both hc0 (both hd0 (both hsl (both hl' (both g2 (both u1 u2)))))) ?_
            rw [decide_eq_true hl]
            refine ⟨(kz.then kA).set _ n2 (by omega), _, rfl, Sl.set hs _ (fun e => by have := hnew _ e; omega)⟩
end Go.Abs

/- Chapter 03: the reference's Parse, walked. -/
namespace Go.Abs
open Go.Proofs
set_option maxRecDepth 100000
set_option linter.unusedVariables false
set_option linter.unusedSimpArgs false

def longL (D : List T8) : Bool := decide (∃ x ∈ D, 32 < x.length)
theorem longL_app (D : List T8) (x : T8) : longL (D ++ [x]) = (longL D || decide (32 < x.length)) := by
  unfold longL
  rw [Bool.eq_iff_iff, Bool.or_eq_true, decide_eq_true_eq, decide_eq_true_eq, decide_eq_true_eq]
  constructor
  · rintro ⟨y, hy, h⟩
    rcases List.mem_append.1 hy with h' | h'
    · exact .inl ⟨y, h', h⟩
    · simp at h'; subst h'; exact .inr h
  · rintro (⟨y, hy, h⟩ | h)
    · exact ⟨y, List.mem_append_left _ hy, h⟩
    · exact ⟨x, by simp, h⟩
structure RF (s : T8) (D : List T8) (fr i : Nat) : Prop where
  le : i ≤ s.length + 1
  fl : fr ≤ i
  num : D.length ≤ i
  nz : ∀ j < i, s[j]? ≠ some 0
  cur : (i ≤ s.length ∧ D ++ partsFrom (cutP s (fr, i)) (s.drop i) = partsOf s) ∨ (i = s.length + 1 ∧ D = partsOf s)
theorem cut_nil (s : T8) (i : Nat) : cutP s (i, i) = [] := by simp [cutP]
theorem cut_length {s : T8} {a i : Nat} (h : i ≤ s.length) : (cutP s (a, i)).length = i - a := by simp [cutP]; omega
theorem RF.start (s : T8) : RF s [] 0 0 := ⟨by omega, by omega, by simp, by omega, .inl ⟨by omega, by rw [cut_nil]; rfl⟩⟩
theorem RF.nzs {s : T8} {D : List T8} {fr i : Nat} (h : RF s D fr i) {c : UInt8} (hc : s[i]? = some c) (h0 : c ≠ 0) : ∀ j < i + 1, s[j]? ≠ some 0 := fun j hj e => by
  rcases Nat.lt_or_ge j i with h' | h'
  · exact h.nz j h' e
  · obtain rfl : j = i := by omega
    rw [hc] at e
    injection e with e
    exact h0 e
theorem RF.word {s : T8} {D : List T8} {fr i : Nat} (h : RF s D fr i) {c : UInt8} (hc : s[i]? = some c) (h0 : c ≠ 0) (h47 : c ≠ 47) : RF s D fr (i + 1) := by
  have hlt := (List.getElem?_eq_some_iff.1 hc).1
  have hf := h.fl
  have hn := h.num
  rcases h.cur with ⟨h1, h2⟩ | ⟨h1, _⟩
  · refine ⟨by omega, by omega, by omega, h.nzs hc h0, .inl ⟨by omega, ?_⟩⟩
    rw [drop_cons hc, partsFrom, if_neg h47] at h2
    rw [← h2]
    congr 2
    rw [← cut_join (a := fr) (pos := i) (w := 1) (by omega) (by omega)]
    congr 1
    unfold cutP
    simp only [Nat.add_sub_cancel_left]
    rw [drop_cons hc]
    rfl
  · omega
theorem RF.slash0 {s : T8} {D : List T8} {i : Nat} (h : RF s D i i) (hc : s[i]? = some 47) : RF s D (i + 1) (i + 1) := by
  have hlt := (List.getElem?_eq_some_iff.1 hc).1
  have hn := h.num
  rcases h.cur with ⟨h1, h2⟩ | ⟨h1, _⟩
  · refine ⟨by omega, by omega, by omega, h.nzs hc (by decide), .inl ⟨by omega, ?_⟩⟩
    rw [drop_cons hc, cut_nil, partsFrom_slash] at h2
    rw [cut_nil]
    simpa using h2
  · omega
theorem RF.slash {s : T8} {D : List T8} {fr i : Nat} (h : RF s D fr i) (hc : s[i]? = some 47) (hf : fr < i) : RF s (D ++ [cutP s (fr, i)]) (i + 1) (i + 1) := by
  have hlt := (List.getElem?_eq_some_iff.1 hc).1
  have hn := h.num
  rcases h.cur with ⟨h1, h2⟩ | ⟨h1, _⟩
  · refine ⟨by omega, by omega, by simp; omega, h.nzs hc (by decide), .inl ⟨by omega, ?_⟩⟩
    rw [drop_cons hc, partsFrom_slash, if_neg (cut_ne hf (by omega))] at h2
    rw [cut_nil, List.append_assoc]
    exact h2
  · omega
theorem RF.end0 {s : T8} {D : List T8} (h : RF s D s.length s.length) : RF s D (s.length + 1) (s.length + 1) := by
  have hn := h.num
  rcases h.cur with ⟨h1, h2⟩ | ⟨h1, _⟩
  · refine ⟨by omega, by omega, by omega, ?_, .inr ⟨rfl, ?_⟩⟩
    · intro j hj e
      have := (List.getElem?_eq_some_iff.1 e).1
      exact h.nz j this e
    · rw [List.drop_length, cut_nil] at h2
      simpa [partsFrom_nil] using h2
  · omega
theorem RF.end {s : T8} {D : List T8} {fr : Nat} (h : RF s D fr s.length) (hf : fr < s.length) : RF s (D ++ [cutP s (fr, s.length)]) (s.length + 1) (s.length + 1) := by
  have hn := h.num
  rcases h.cur with ⟨h1, h2⟩ | ⟨h1, _⟩
  · refine ⟨by omega, by omega, by simp; omega, ?_, .inr ⟨rfl, ?_⟩⟩
    · intro j hj e
      have := (List.getElem?_eq_some_iff.1 e).1
      exact h.nz j this e
    · rw [List.drop_length, partsFrom_nil, if_neg (cut_ne hf (by omega))] at h2
      exact h2
  · omega
theorem RF.fin {s : T8} {D : List T8} {fr : Nat} (h : RF s D fr (s.length + 1)) : D = partsOf s ∧ (0 : UInt8) ∉ s := by
  rcases h.cur with ⟨h1, _⟩ | ⟨_, h2⟩
  · omega
  · refine ⟨h2, fun hm => ?_⟩
    obtain ⟨j, hj⟩ := List.mem_iff_getElem?.1 hm
    exact h.nz j (by have := (List.getElem?_eq_some_iff.1 hj).1; omega) hj
theorem refParse_ok (s : T8) (H : Heap) : Cl Try.prog pr03 19 [.str s] H fun r H' => Keep H H' ∧ ∃ v, r = .tuple [.agg [.bool (parseP s).1, .bool (parseP s).2.1, v], .int .i64 (parseE s)] ∧ Ss H' v (parseP s).2.2 := by
  have nil0 : ∀ H : Heap, Ss H (.slice none 0 0 none) [] := fun H => Sl.nil
  refine Cl.enter Try.func19 rfl rfl Try.ntmps19 (by simp) ?_
  by_cases h0 : s = []
  · have e : parseE s = 2 := if_pos h0
    have ep : parseP s = (false, false, []) := by unfold parseP; rw [e]; rfl
    rw [e, ep]
    subst h0
    refine walk none0 ?_
    exact ⟨(Upd.rfl.push _).set _ (by simp) (by omega), _, rfl, nil0 _⟩
  · by_cases h1 : 256 < s.length
    · have e : parseE s = 63 := by unfold parseE; rw [if_neg h0, if_pos h1]
      have ep : parseP s = (false, false, []) := by unfold parseP; rw [e]; rfl
      rw [e, ep]
      refine walk (both h0 h1) ?_
      exact ⟨(Upd.rfl.push _).set _ (by simp) (by omega), _, rfl, nil0 _⟩
    · obtain ⟨c, hc0, ec⟩ := head_at h0
      have hsl : 0 < s.length := List.length_pos_iff.2 h0
      have u1 := u8_dec c
      refine walk (both h0 (both h1 (both hc0 (both hsl u1)))) ?_
      refine Wq.loop (fun m e H' => ∃ (i fr : Nat) (D : List T8) (w : AV), RF s D fr i ∧ m = s.length + 1 - i ∧ e 0 = .str s ∧ e 2 = .ptr (some (H.next, 0)) ∧ e 4 = .ptr (some (H.next + 1, 0)) ∧ e 5 = .int .i64 fr ∧ e 6 = .bool (longL D) ∧ e 7 = .int .i64 i ∧
        H'.get H.next = some (.cells [.bool false, .bool false, .slice none 0 0 none] 28 true false) ∧ H'.get (H.next + 1) = some (.cells [.bool (decide (c = 47)), .bool false, w] 28 true false) ∧ FreshG H H' 9 1 w D.length (strs D) ∧ (∀ z, slBlock w = some z → H.next + 2 ≤ z ∧ z < H'.next) ∧ H.next + 2 ≤ H'.next) (s.length + 1) ?_ ?_
      · refine ⟨0, 0, [], .slice none 0 0 none, RF.start s, by omega, by simp, by simp, by simp, by simp, by simp [longL], by simp, ?_, ?_, ?_, by simp [slBlock], by simp⟩
        · simp (disch := omega) [ineg]
        · simp (disch := omega) [ineg]
        · exact FreshG.nil (((Upd.rfl.push _).push _).set _ (by simp) (fun h => by omega))
      · rintro m e H' ⟨i, fr, D, w, hrf, rfl, g0, g2, g4, g5, g6, g7, gz, gp, hF, hz, hn⟩
        obtain ⟨wa, wc, wx, rfl, hwc, hwx⟩ := hF.own.form
        have hfr := hrf.fl
        have hnum := hrf.num
        by_cases hle : i ≤ s.length
        · rcases Nat.lt_or_ge i s.length with hlt | hge
          · obtain ⟨x, hx⟩ := get_lt' hlt
            have hleI : (i : Int) ≤ s.length := by omega
            have hltI : (i : Int) < s.length := by omega
            have hneI : ¬ (i : Int) = s.length := by omega
            by_cases hx0 : x = 0
            · subst hx0
              have hm : (0 : UInt8) ∈ s := List.mem_of_getElem? hx
              have e : parseE s = 22 := by unfold parseE; rw [if_neg h0, if_neg h1, if_pos hm]
              have ep : parseP s = (false, false, []) := by unfold parseP; rw [e]; rfl
              rw [e, ep]
              refine walk (both g0 (both g2 (both g4 (both g5 (both g6 (both g7 (both hlt (both hle (both hx gz))))))))) ?_
              exact ⟨hF.keep.set _ (by omega) (by omega), _, rfl, nil0 _⟩
            · have hx0' : ¬ (x.toNat : Int) = 0 := fun h => hx0 (UInt8.toNat_inj.1 (by simpa using (by omega : x.toNat = 0)))
              by_cases hx47 : x = 47
              · subst hx47
                by_cases hf : fr < i
                · have hct : List.drop fr (List.take i s) = cutP s (fr, i) := List.drop_take
                  have hcl : ((cutP s (fr, i)).length : Int) = (i : Int) - fr := by rw [cut_length (by omega)]; omega
                  have hap := longL_app D (cutP s (fr, i))
                  have hfI : (fr : Int) < i := by omega
                  refine walk (both g0 (both g2 (both g4 (both g5 (both g6 (both g7 (both hlt (both hx (both hneI (both hle hfI)))))))))) ?_
                  refine Wq.regionD [0, 1, 2, 3, 4, 5, 6, 7, 8, 9] (by kernel_rfl) ?_
                  refine walk (both g0 (both g2 (both g4 (both g5 (both g6 (both g7 (both hlt (both hx (both hneI (both hle (both hf (both hfI (both gp hct))))))))))))) ?_
                  have kB : Keep H' (H'.push (.cells [.str (cutP s (fr, i))] 9 true false)) := Upd.rfl.push _
                  refine Oq.appendL (own := (hF.own.kept kB)) (new := [.str (cutP s (fr, i))]) (m := 1) (by simp (disch := omega) [g4, -getElem?_pos, wrapI64, tdivN, tmodN, ipos, ineg, dpos, dneg, slc_l, slc_h, slc_lh, slc_hm, slc_lhm, slc_0, slcR_some, slcR_none, cutS_ok, cutA_ok, byteAt_ok]; first | done | (repeat' (first | rfl | apply And.intro))) ⟨_, rfl, by simp; first | done | (repeat' (first | rfl | apply And.intro))⟩ rfl (by kernel_rfl) (by kernel_rfl) (by refine ⟨by simp, ?_⟩; simp (disch := omega) [srcCells, cellsAt, g4, -getElem?_pos, wrapI64, tdivN, tmodN, ipos, ineg, dpos, dneg, slc_l, slc_h, slc_lh, slc_hm, slc_lhm, slc_0, slcR_some, slcR_none, cutS_ok, cutA_ok, byteAt_ok]; first | done | rfl) (by simp [g4]) (by simp [g4]) (by omega) (by omega) fun w1 H4 o1 b1 s1 l1 => ?_
                  have hk1 : ∀ z, z < H.next + 2 → H4.get z = H'.get z := by
                    intro z hz'
                    rw [b1.2.2 z (by simp; omega) (fun e => by have := (hz z e.symm).1; omega), Heap.get_push, if_neg (by omega)]
                  have hn1 : H'.next + 1 ≤ H4.next := by have := b1.1; simpa using this
                  have gz1 := (hk1 H.next (by omega)).trans gz
                  have gp1 := (hk1 (H.next + 1) (by omega)).trans gp
                  have hz1 : ∀ z, slBlock w1 = some z → H.next + 2 ≤ z ∧ z < H4.next := by
                    intro z hz1
                    have hlt1 : z < H4.next := by
                      rcases l1 z hz1 with e | e
                      · have := hz z e; omega
                      · exact e
                    rcases s1 with e | e
                    · rw [e] at hz1; have := hz z hz1; omega
                    · rw [e] at hz1; simp at hz1; omega
                  have f1 := (hF.then kB).app o1 b1 s1
                  obtain ⟨wa1, wc1, wx1, rfl, _⟩ := o1.form
                  cases hb : longL D with
                  | true =>
                    rw [hb, Bool.true_or] at hap
                    refine walk (both g0 (both g2 (both g4 (both g5 (both g6 (both g7 (both hlt (both hx (both hneI (both hle (both hfI (both gp1 hb)))))))))))) ?_
                    refine Roundq.normal (s.length + 1 - (i + 1)) (by omega) ⟨i + 1, i + 1, D ++ [cutP s (fr, i)], .slice wa1 (D.length + 1) wc1 wx1, hrf.slash hx hf, rfl, by simp [g0], by simp [g2], by simp [g4], by simp, by simp [hap], by simp, ?_, Heap.get_set_same _ _ _, ?_, ?_, by simp; omega⟩
                    · rw [Heap.get_set_ne _ _ (by omega)]; exact gz1
                    · rw [List.length_append, ← strs_app]
                      exact f1.set _ (by omega) (by omega) (fun e => by have := (hz1 _ e).1; omega)
                    · intro z hz'; have := hz1 z hz'; simp; omega
                  | false =>
                    rw [hb, Bool.false_or] at hap
                    have hap' : longL (D ++ [cutP s (fr, i)]) = decide ((32 : Int) < (i : Int) - fr) := by
                      rw [hap, ← hcl]
                      simp only [decide_eq_decide]
                      omega
                    refine walk (both g0 (both g2 (both g4 (both g5 (both g6 (both g7 (both hlt (both hx (both hneI (both hle (both hfI (both gp1 hb)))))))))))) ?_
                    refine Roundq.normal (s.length + 1 - (i + 1)) (by omega) ⟨i + 1, i + 1, D ++ [cutP s (fr, i)], .slice wa1 (D.length + 1) wc1 wx1, hrf.slash hx hf, rfl, by simp [g0], by simp [g2], by simp [g4], by simp, by simp [hap'], by simp, ?_, Heap.get_set_same _ _ _, ?_, ?_, by simp; omega⟩
                    · rw [Heap.get_set_ne _ _ (by omega)]; exact gz1
                    · rw [List.length_append, ← strs_app]
                      exact f1.set _ (by omega) (by omega) (fun e => by have := (hz1 _ e).1; omega)
                    · intro z hz'; have := hz1 z hz'; simp; omega
                · obtain rfl : fr = i := by omega
                  refine walk (both g0 (both g2 (both g4 (both g5 (both g6 (both g7 (both hlt (both hle (both hx hneI))))))))) ?_
                  exact Roundq.normal (s.length + 1 - (fr + 1)) (by omega) ⟨fr + 1, fr + 1, D, _, hrf.slash0 hx, rfl, by simp [g0], by simp [g2], by simp [g4], by simp, by simp [g6], by simp, gz, gp, hF, hz, hn⟩
              · have hx47' : ¬ (x.toNat : Int) = 47 := fun h => hx47 (UInt8.toNat_inj.1 (by simpa using (by omega : x.toNat = 47)))
                refine walk (both g0 (both g2 (both g4 (both g5 (both g6 (both g7 (both hlt (both hle (both hx (both hneI (both hx0' hx47'))))))))))) ?_
                exact Roundq.normal (s.length + 1 - (i + 1)) (by omega) ⟨i + 1, fr, D, _, hrf.word hx hx0 hx47, rfl, by simp [g0], by simp [g2], by simp [g4], by simp [g5], by simp [g6], by simp, gz, gp, hF, hz, hn⟩
          · obtain rfl : i = s.length := by omega
            by_cases hf : fr < s.length
            · have hct : List.drop fr s = cutP s (fr, s.length) := by unfold cutP; simp [List.take_of_length_le]
              have hcl : ((cutP s (fr, s.length)).length : Int) = (s.length : Int) - fr := by rw [cut_length (by omega)]; omega
              have hap := longL_app D (cutP s (fr, s.length))
              have hfI : (fr : Int) < s.length := by omega
              refine walk (both g0 (both g2 (both g4 (both g5 (both g6 (both g7 (both hle hfI))))))) ?_
              refine Wq.regionD [0, 1, 2, 3, 4, 5, 6, 7, 8, 9] (by kernel_rfl) ?_
              refine walk (both g0 (both g2 (both g4 (both g5 (both g6 (both g7 (both hle (both hf (both hfI (both gp hct)))))))))) ?_
              have kB : Keep H' (H'.push (.cells [.str (cutP s (fr, s.length))] 9 true false)) := Upd.rfl.push _
              refine Oq.appendL (own := (hF.own.kept kB)) (new := [.str (cutP s (fr, s.length))]) (m := 1) (by simp (disch := omega) [g4, -getElem?_pos, wrapI64, tdivN, tmodN, ipos, ineg, dpos, dneg, slc_l, slc_h, slc_lh, slc_hm, slc_lhm, slc_0, slcR_some, slcR_none, cutS_ok, cutA_ok, byteAt_ok]; first | done | (repeat' (first | rfl | apply And.intro))) ⟨_, rfl, by simp; first | done | (repeat' (first | rfl | apply And.intro))⟩ rfl (by kernel_rfl) (by kernel_rfl) (by refine ⟨by simp, ?_⟩; simp (disch := omega) [srcCells, cellsAt, g4, -getElem?_pos, wrapI64, tdivN, tmodN, ipos, ineg, dpos, dneg, slc_l, slc_h, slc_lh, slc_hm, slc_lhm, slc_0, slcR_some, slcR_none, cutS_ok, cutA_ok, byteAt_ok]; first | done | rfl) (by simp [g4]) (by simp [g4]) (by omega) (by omega) fun w1 H4 o1 b1 s1 l1 => ?_
              have hk1 : ∀ z, z < H.next + 2 → H4.get z = H'.get z := by
                intro z hz'
                rw [b1.2.2 z (by simp; omega) (fun e => by have := (hz z e.symm).1; omega), Heap.get_push, if_neg (by omega)]
              have hn1 : H'.next + 1 ≤ H4.next := by have := b1.1; simpa using this
              have gz1 := (hk1 H.next (by omega)).trans gz
              have gp1 := (hk1 (H.next + 1) (by omega)).trans gp
              have hz1 : ∀ z, slBlock w1 = some z → H.next + 2 ≤ z ∧ z < H4.next := by
                intro z hz1
                have hlt1 : z < H4.next := by
                  rcases l1 z hz1 with e | e
                  · have := hz z e; omega
                  · exact e
                rcases s1 with e | e
                · rw [e] at hz1; have := hz z hz1; omega
                · rw [e] at hz1; simp at hz1; omega
              have f1 := (hF.then kB).app o1 b1 s1
              obtain ⟨wa1, wc1, wx1, rfl, _⟩ := o1.form
              cases hb : longL D with
              | true =>
                rw [hb, Bool.true_or] at hap
                refine walk (both g0 (both g2 (both g4 (both g5 (both g6 (both g7 (both hle (both hfI (both gp1 hb))))))))) ?_
                refine Roundq.normal (s.length + 1 - (s.length + 1)) (by omega) ⟨s.length + 1, s.length + 1, D ++ [cutP s (fr, s.length)], .slice wa1 (D.length + 1) wc1 wx1, hrf.end hf, rfl, by simp [g0], by simp [g2], by simp [g4], by simp, by simp [hap], by simp, ?_, Heap.get_set_same _ _ _, ?_, ?_, by simp; omega⟩
                · rw [Heap.get_set_ne _ _ (by omega)]; exact gz1
                · rw [List.length_append, ← strs_app]
                  exact f1.set _ (by omega) (by omega) (fun e => by have := (hz1 _ e).1; omega)
                · intro z hz'; have := hz1 z hz'; simp; omega
              | false =>
                rw [hb, Bool.false_or] at hap
                have hap' : longL (D ++ [cutP s (fr, s.length)]) = decide ((32 : Int) < (s.length : Int) - fr) := by
                  rw [hap, ← hcl]
                  simp only [decide_eq_decide]
                  omega
                refine walk (both g0 (both g2 (both g4 (both g5 (both g6 (both g7 (both hle (both hfI (both gp1 hb))))))))) ?_
                refine Roundq.normal (s.length + 1 - (s.length + 1)) (by omega) ⟨s.length + 1, s.length + 1, D ++ [cutP s (fr, s.length)], .slice wa1 (D.length + 1) wc1 wx1, hrf.end hf, rfl, by simp [g0], by simp [g2], by simp [g4], by simp, by simp [hap'], by simp, ?_, Heap.get_set_same _ _ _, ?_, ?_, by simp; omega⟩
                · rw [Heap.get_set_ne _ _ (by omega)]; exact gz1
                · rw [List.length_append, ← strs_app]
                  exact f1.set _ (by omega) (by omega) (fun e => by have := (hz1 _ e).1; omega)
                · intro z hz'; have := hz1 z hz'; simp; omega
            · obtain rfl : fr = s.length := by omega
              refine walk (both g0 (both g2 (both g4 (both g5 (both g6 g7))))) ?_
              exact Roundq.normal (s.length + 1 - (s.length + 1)) (by omega) ⟨s.length + 1, s.length + 1, D, _, hrf.end0, rfl, by simp [g0], by simp [g2], by simp [g4], by simp, by simp [g6], by simp, gz, gp, hF, hz, hn⟩
        · obtain rfl : i = s.length + 1 := by have := hrf.le; omega
          obtain ⟨hD, hno⟩ := hrf.fin
          have hleI : ¬ ((s.length : Int) + 1) ≤ s.length := by omega
          by_cases h3 : ∃ x ∈ D, 32 < x.length
          · have e1 : longL D = true := decide_eq_true h3
            have e : parseE s = 63 := by unfold parseE; rw [if_neg h0, if_neg h1, if_neg hno, if_pos (hD ▸ h3)]
            have ep : parseP s = (false, false, []) := by unfold parseP; rw [e]; rfl
            rw [e1] at g6
            rw [e, ep]
            refine walk (both g0 (both g2 (both g4 (both g5 (both g6 (both g7 (both hle gz))))))) ?_
            exact ⟨hF.keep.set _ (by omega) (by omega), _, rfl, nil0 _⟩
          · have e1 : longL D = false := decide_eq_false h3
            have e : parseE s = 0 := by unfold parseE; rw [if_neg h0, if_neg h1, if_neg hno, if_neg (hD ▸ h3)]
            have ep : parseP s = pathT s := by unfold parseP; rw [e]; rfl
            obtain ⟨d, hd0, ed⟩ := last_at h0
            have u2 := u8_dec d
            rw [e1] at g6
            rw [e, ep]
            unfold pathT
            rw [ec, ed, ← hD]
            by_cases hl : D = []
            · subst hl
              rw [decide_eq_false (fun h : ([] : List T8) ≠ [] => h rfl)]
              cases hdd : decide (d = 47) with
              | false =>
                refine walk (both g0 (both g2 (both g4 (both g5 (both g6 (both g7 (both hle (both gz (both gp (both hd0 (both hsl (both u2 hdd)))))))))))) ?_
                exact ⟨(hF.keep.set _ (by omega) (by omega)).set _ (by simp; omega) (by omega), _, rfl, Sl.set (Sl.set hF.own.sl _ (fun e => by have := (hz _ e).1; omega)) _ (fun e => by have := (hz _ e).1; omega)⟩
              | true =>
                refine walk (both g0 (both g2 (both g4 (both g5 (both g6 (both g7 (both hle (both gz (both gp (both hd0 (both hsl (both u2 hdd)))))))))))) ?_
                exact ⟨(hF.keep.set _ (by omega) (by omega)).set _ (by simp; omega) (by omega), _, rfl, Sl.set (Sl.set hF.own.sl _ (fun e => by have := (hz _ e).1; omega)) _ (fun e => by have := (hz _ e).1; omega)⟩
            · have hl' : 0 < D.length := List.length_pos_iff.2 hl
              rw [decide_eq_true hl]
              cases hdd : decide (d = 47) with
              | false =>
                refine walk (both g0 (both g2 (both g4 (both g5 (both g6 (both g7 (both hle (both gz (both gp (both hd0 (both hsl (both u2 (both hl' hdd))))))))))))) ?_
                exact ⟨(hF.keep.set _ (by omega) (by omega)).set _ (by simp; omega) (by omega), _, rfl, Sl.set (Sl.set hF.own.sl _ (fun e => by have := (hz _ e).1; omega)) _ (fun e => by have := (hz _ e).1; omega)⟩
              | true =>
                refine walk (both g0 (both g2 (both g4 (both g5 (both g6 (both g7 (both hle (both gz (both gp (both hd0 (both hsl (both u2 (both hl' hdd))))))))))))) ?_
                exact ⟨(hF.keep.set _ (by omega) (by omega)).set _ (by simp; omega) (by omega), _, rfl, Sl.set (Sl.set hF.own.sl _ (fun e => by have := (hz _ e).1; omega)) _ (fun e => by have := (hz _ e).1; omega)⟩
end Go.Abs

/- Chapter 03: PathParses, walked. -/
namespace Go.Abs
open Go.Proofs
set_option maxRecDepth 100000
set_option linter.unusedVariables false
set_option linter.unusedSimpArgs false

theorem parseP_len (s : T8) (hs : s.length ≤ 3000) : (parseP s).2.2.length ≤ 100000 := by
  unfold parseP
  split
  · have := partsFrom_len s []
    unfold pathT partsOf
    simp at this ⊢
    omega
  · simp
theorem keep_new (H : Heap) (x y : AObj) : Keep H ((H.push x).set H.next y) := (Upd.rfl.push _).set _ (by simp) (by omega)
theorem pathParses_main (s : T8) (H : Heap) : Cl Try.prog pr03 6 [.str s] H fun v _ => v = .bool true := by
  refine Cl.enter Try.func6 rfl rfl Try.ntmps6 (by simp) ?_
  by_cases h1 : 3000 < s.length
  · have e : parseE s = 63 := by unfold parseE; rw [if_neg (by rintro rfl; simp at h1), if_pos (by omega)]
    refine walk h1 ?_
    refine (parse_ok s H).mono fun v H1 _ ⟨kA, w, e1, hs⟩ => ?_
    obtain ⟨wa, wc, wx, rfl, hwc, hwx⟩ := hs.form
    rw [e] at e1
    subst e1
    refine walk none0 ?_
    refine (lives_ok _).mono fun v H2 _ ⟨e1, e2⟩ => ?_
    subst e1; subst e2
    refine walk none0 ?_
    rfl
  · have hl3 := parseP_len s (by omega)
    refine walk h1 ?_
    refine (parse_ok s H).mono fun v H1 _ ⟨kA, w, e1, hs⟩ => ?_
    obtain ⟨wa, wc, wx, rfl, hwc, hwx⟩ := hs.form
    subst e1
    refine walk none0 ?_
    have k1 := keep_new H1 (.cells [.bool false, .bool false, .slice none 0 0 none] 28 true false) (.cells [.bool (parseP s).1, .bool (parseP s).2.1, .slice wa (parseP s).2.2.length wc wx] 28 true false)
    have g1 : ((H1.push (.cells [.bool false, .bool false, .slice none 0 0 none] 28 true false)).set H1.next (.cells [.bool (parseP s).1, .bool (parseP s).2.1, .slice wa (parseP s).2.2.length wc wx] 28 true false)).get H1.next = some (.cells [.bool (parseP s).1, .bool (parseP s).2.1, .slice wa (parseP s).2.2.length wc wx] 28 true false) := Heap.get_set_same _ _ _
    have n1 : H1.next < ((H1.push (.cells [.bool false, .bool false, .slice none 0 0 none] 28 true false)).set H1.next (.cells [.bool (parseP s).1, .bool (parseP s).2.1, .slice wa (parseP s).2.2.length wc wx] 28 true false)).next := by simp
    generalize (H1.push (.cells [.bool false, .bool false, .slice none 0 0 none] 28 true false)).set H1.next (.cells [.bool (parseP s).1, .bool (parseP s).2.1, .slice wa (parseP s).2.2.length wc wx] 28 true false) = H2 at *
    have hs2 := hs.kept k1
    refine (refParse_ok s H2).mono fun v H3 _ ⟨kB, w', e1, hs'⟩ => ?_
    obtain ⟨ua, uc, ux, rfl, huc, hux⟩ := hs'.form
    subst e1
    have hs3 := hs2.kept kB
    have g3 := (kB.get n1).trans g1
    have n3 : H1.next < H3.next := Nat.lt_of_lt_of_le n1 kB.next
    refine walk none0 ?_
    have k3 := keep_new H3 (.cells [.bool false, .bool false, .slice none 0 0 none] 28 true false) (.cells [.bool (parseP s).1, .bool (parseP s).2.1, .slice ua (parseP s).2.2.length uc ux] 28 true false)
    have g4 := (k3.get n3).trans g3
    have g4' : ((H3.push (.cells [.bool false, .bool false, .slice none 0 0 none] 28 true false)).set H3.next (.cells [.bool (parseP s).1, .bool (parseP s).2.1, .slice ua (parseP s).2.2.length uc ux] 28 true false)).get H3.next = some (.cells [.bool (parseP s).1, .bool (parseP s).2.1, .slice ua (parseP s).2.2.length uc ux] 28 true false) := Heap.get_set_same _ _ _
    generalize (H3.push (.cells [.bool false, .bool false, .slice none 0 0 none] 28 true false)).set H3.next (.cells [.bool (parseP s).1, .bool (parseP s).2.1, .slice ua (parseP s).2.2.length uc ux] 28 true false) = H4 at *
    have hs4 := hs3.kept k3
    have hs4' := hs'.kept k3
    have n4 : H1.next < H4.next := Nat.lt_of_lt_of_le n3 k3.next
    refine walk (both g4 g4') ?_
    refine (same_ok hs4 hs4' hl3).mono fun v H5 _ ⟨e1, kS⟩ => ?_
    subst e1
    have g5 := (kS.get n4).trans g4
    have n5 : H1.next < H5.next := Nat.lt_of_lt_of_le n4 kS.next
    have hs5 := hs4.kept kS
    by_cases he : parseE s = 0
    · have hp : parseP s = pathT s := if_pos he
      obtain ⟨q1, q2⟩ := parseE_show he
      have hp2 : parseP (showT3 (pathT s).1 (pathT s).2.1 (pathT s).2.2) = parseP s := by rw [hp]; unfold parseP; rw [if_pos q1, q2]
      have hsz := show_size s
      rw [← hp] at q1 hp2 hsz
      have hJ : (Lib.join (parseP s).2.2 [47]).length ≤ 1000000 := by
        unfold showT3 at hsz
        simp only [List.length_append] at hsz
        omega
      have hsh := show_ok (a := (parseP s).1) (d := (parseP s).2.1) hs5 hl3 hJ
      have hss : showS (parseP s).1 (parseP s).2.1 (parseP s).2.2 = showT3 (parseP s).1 (parseP s).2.1 (parseP s).2.2 := rfl
      rw [hss] at hsh
      generalize showT3 (parseP s).1 (parseP s).2.1 (parseP s).2.2 = z at *
      refine walk (both he g5) ?_
      refine hsh.mono fun v H6 _ ⟨e1, kC⟩ => ?_
      subst e1
      refine walk he ?_
      refine (parse_ok z H6).mono fun v H7 _ ⟨kD, w2, e1, hs7⟩ => ?_
      obtain ⟨va, vc, vx, rfl, hvc, hvx⟩ := hs7.form
      rw [q1, hp2] at e1
      rw [hp2] at hs7
      subst e1
      have kCD := kC.then kD
      have g7 := (kCD.get n5).trans g5
      have n7 : H1.next < H7.next := Nat.lt_of_lt_of_le n5 kCD.next
      have hs7' := hs5.kept kCD
      refine walk none0 ?_
      have k8 := keep_new H7 (.cells [.bool false, .bool false, .slice none 0 0 none] 28 true false) (.cells [.bool (parseP s).1, .bool (parseP s).2.1, .slice va (parseP s).2.2.length vc vx] 28 true false)
      have g8 := (k8.get n7).trans g7
      have g8' : ((H7.push (.cells [.bool false, .bool false, .slice none 0 0 none] 28 true false)).set H7.next (.cells [.bool (parseP s).1, .bool (parseP s).2.1, .slice va (parseP s).2.2.length vc vx] 28 true false)).get H7.next = some (.cells [.bool (parseP s).1, .bool (parseP s).2.1, .slice va (parseP s).2.2.length vc vx] 28 true false) := Heap.get_set_same _ _ _
      generalize (H7.push (.cells [.bool false, .bool false, .slice none 0 0 none] 28 true false)).set H7.next (.cells [.bool (parseP s).1, .bool (parseP s).2.1, .slice va (parseP s).2.2.length vc vx] 28 true false) = H8 at *
      refine walk (both g8 g8') ?_
      refine (same_ok (hs7.kept k8) (hs7'.kept k8) hl3).mono fun v H9 _ ⟨e1, _⟩ => ?_
      subst e1
      refine walk none0 ?_
      refine (lives_ok _).mono fun v H10 _ ⟨e1, e2⟩ => ?_
      subst e1; subst e2
      refine walk none0 ?_
      rfl
    · refine walk he ?_
      refine (lives_ok _).mono fun v H6 _ ⟨e1, e2⟩ => ?_
      subst e1; subst e2
      refine walk none0 ?_
      rfl
end Go.Abs

/- The seat's own facts for its rows. -/
namespace Go.Proofs.Ytdndkchlkgldmaa
open Go.ChangeShapes Go.WideShapes Go.ChangeAt Go.RowKit Go.Abs
set_option linter.unusedVariables false
set_option maxRecDepth 100000

theorem own : ownKnob Try.prog.godebug = none := by kernel_rfl
theorem laidOut : laidOutB Try.prog = true := by kernel_rfl
theorem mixed : Try.prog.follows .mixedOrders = true := by kernel_rfl
theorem plainN : plainNames Try.prog = true := by kernel_rfl
theorem baseOk : PrimsOk Try.prog base03 := orPrims_ok (memPrims_ok (by intro p hp; simp at hp; subst hp; exact Try.says35)) (orPrims_ok (extPrims_ok (by intro p hp; simp at hp; subst hp; exact Try.says60)) (bodyPrims_ok (by intro p hp; simp at hp; subst hp; exact Try.says25)))
theorem baseRl : PrimsRl base03 := orPrims_rl (memPrims_rl _) (orPrims_rl (extPrims_rl _) (extPrims_rl _))
theorem run10 : ((acall Try.prog base03 40 10 [] (Heap.start Try.prog.globals.size)).map fun r => sameAV r.1 (.bool true)) = some true := by kernel_rfl
theorem runs10 : ∃ n H', acall Try.prog base03 n 10 [] (Heap.start Try.prog.globals.size) = some (.bool true, H') := runs_on run10
theorem primsOk : PrimsOk Try.prog pr03 := by
  refine orPrims_ok (closedPrims_on mixed plainN baseOk fun p hp => ?_) baseOk
  simp at hp
  subst hp
  exact ⟨rfl, runs10⟩
theorem primsRl : PrimsRl pr03 := orPrims_rl (closedPrims_rl _) baseRl
end Go.Proofs.Ytdndkchlkgldmaa

/- PathParses: the row. -/
namespace Go.Proofs.Ytdndkchlkgldmaa
open Go.ChangeShapes Go.WideShapes Go.ChangeAt Go.RowKit Go.Abs
set_option linter.unusedVariables false
set_option maxRecDepth 100000

theorem pathParsesMain (H : Heap) (xs : List AV) (hG : Try.prog.globals.size ≤ H.next) (hw : Wf H) (h : PicAll Try.prog H 3 [9] xs) : CallsA Try.prog pr03 6 xs H fun v _ => v = .bool true := by
  obtain ⟨a0, r0, rfl, h0, hend⟩ := h
  obtain rfl : r0 = [] := hend
  refine Cl.callsA primsRl hw ?_
  obtain ⟨z0, rfl, w0⟩ := picV_str Try.underlying9 h0
  exact pathParses_main z0 H

theorem pathParsesLifted (os : Os) (started : os.Started) (H : Type) (enc : TypeId × Value → H) :
    ReturnsInHanded {} Try.checked os 6 .any (Rows.pathParsesSpec.pre6 enc Try.prog Try.f6 Rows.pathParsesRow.domain false) (Rows.pathParsesSpec.post enc Try.prog Try.f6 false true false false) := by
  refine returnsInHanded_of_change (C := Try.checked) own started (by kernel_rfl) Try.func6
    (ChangeSpec.witness6 (enc := enc) (C := Try.checked) false ⟨#[], #[.string ⟨#[]⟩], []⟩ 8 (by kernel_rfl) (by kernel_rfl) (by kernel_rfl) (by kernel_rfl)) ?_
  intro W base args ds gs before hval hW hcnd _
  have ep : Try.f6.params.toList = [9] := by kernel_rfl
  refine law_post laidOut rfl (fun ds h => ?_) (tb := 4) (by kernel_rfl) Try.underlying4 ?_ hW (fun p hA => ?_)
  · rw [ep] at h
    match ds, h with
    | [a0], _ => rfl
  · rw [ep]
    intro t ht
    simp at ht
    subst ht; exact ⟨by kernel_rfl, of_decide_eq_true (by kernel_rfl)⟩
  · refine law_calls primsOk mixed plainN Try.func6 rfl (n := 3) (base := base) (ts := Try.f6.params.toList) ?_ ?_ ?_ hA
    · rw [ep]
      intro t ht
      simp at ht
      subst ht; kernel_rfl
    · rw [ep]
      exact pathParsesMain
    · intro j t v h1 h2
      exact hval j t v (by simpa using h1) (by simpa using h2)

theorem pathParses : Rows.PathParsesSaid :=
  OpenClaim.holds_of_wide 6 Try.f6 rfl rfl rfl rfl rfl rfl rfl ⟨rfl, rfl, rfl, rfl, rfl⟩ rfl rfl rfl rfl rfl (by kernel_rfl) Try.func6 (by kernel_rfl)
    (of_decide_eq_true (by kernel_rfl)) (by unfold Func.isWrapper; first | (rw [if_pos (by decide +kernel)]; kernel_rfl) | (rw [if_neg (by decide +kernel)]; exact ⟨rfl, rfl⟩))
    (fun os started H enc _ => pathParsesLifted os started H enc)
-- #print axioms pathParses
end Go.Proofs.Ytdndkchlkgldmaa
