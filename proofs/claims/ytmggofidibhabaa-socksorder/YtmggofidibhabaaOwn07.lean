/- Texts on this program, joined. -/
import Derived.Test.YtmggofidibhabaaOwn05
import Derived.Test.YtmggofidibhabaaKit06
import Derived.Test.YtmggofidibhabaaKit03

/- Chapter 11: shapes of what is passed, and small functions, walked. -/
namespace Go.Abs
open Go.Proofs
set_option maxRecDepth 100000
set_option linter.unusedVariables false
set_option linter.unusedSimpArgs false

def pr11 : Prims := closedPrims [(10, .bool true)]

structure Pass where
  file : Int
  rights : Int
  all : Bool
  l : List Int
  fcn : Int
structure Part where
  b : List UInt8
  l : List Pass
def passS : Shape Pass := viaS (pairS (intS .i64) (pairS (intS .u32) (pairS boolS (pairS (sliceS (intS .i64)) (intS .i64))))) fun x => (x.file, x.rights, x.all, x.l, x.fcn)
def partS : Shape Part := viaS (pairS bytesS (sliceS passS)) fun x => (x.b, x.l)
@[simp] theorem passS_s : passS.s = 5 := rfl
@[simp] theorem partS_s : partS.s = 2 := rfl
@[simp] theorem intS_s (k : IntKind) : (intS k).s = 1 := rfl
theorem pass_open {H : Heap} {ok : Nat → Prop} {cs : List AV} {x : Pass} (h : passS.R H ok cs x) : ∃ v, cs = [.int .i64 x.file, .int .u32 x.rights, .bool x.all, v, .int .i64 x.fcn] ∧ List0 (intS .i64) H ok v x.l := by
  obtain ⟨_, _, rfl, ⟨rfl, w1⟩, _, _, rfl, ⟨rfl, w2⟩, _, _, rfl, rfl, _, _, rfl, ⟨v, c, rfl, h⟩, rfl, w3⟩ := h
  exact ⟨v, rfl, v, c, rfl, h⟩
theorem pass_mk {H : Heap} {ok : Nat → Prop} {x : Pass} {v : AV} (h1 : (Lit.int .i64 x.file).wf = true) (h2 : (Lit.int .u32 x.rights).wf = true) (h3 : (Lit.int .i64 x.fcn).wf = true) (h : List0 (intS .i64) H ok v x.l) :
    passS.R H ok [.int .i64 x.file, .int .u32 x.rights, .bool x.all, v, .int .i64 x.fcn] x :=
  ⟨[.int .i64 x.file], _, rfl, ⟨rfl, h1⟩, [.int .u32 x.rights], _, rfl, ⟨rfl, h2⟩, [.bool x.all], _, rfl, rfl, [v], [.int .i64 x.fcn], rfl, h, rfl, h3⟩
theorem part_open {H : Heap} {ok : Nat → Prop} {cs : List AV} {x : Part} (h : partS.R H ok cs x) : ∃ vb vl, cs = [vb, vl] ∧ bytesS.R H ok [vb] x.b ∧ List0 passS H ok vl x.l := by
  obtain ⟨_, _, rfl, ⟨vb, rfl, h1⟩, ⟨vl, c, rfl, h2⟩⟩ := h
  exact ⟨vb, vl, rfl, ⟨vb, rfl, h1⟩, vl, c, rfl, h2⟩
theorem part_mk {H : Heap} {ok : Nat → Prop} {x : Part} {vb vl : AV} (h1 : bytesS.R H ok [vb] x.b) (h2 : List0 passS H ok vl x.l) : partS.R H ok [vb, vl] x := ⟨[vb], [vl], rfl, h1, h2⟩

/-! ## the library's -/
theorem clone28 (v : AV) (n : Nat) (c : List AV) (H : Heap) (h : Sl H 5 v n c) (h1 : c.all AV.one = true) (hn : n ≤ 100000) :
    Cl Try.prog pr11 24 [v] H fun w H' => Fresh H H' 61 5 w n c := by
  obtain ⟨a, cap, ex, rfl, hc, _⟩ := h.form
  have hlen := h.len
  refine Cl.enter Try.func24 rfl rfl Try.ntmps24 (by simp) ?_
  cases a with
  | none =>
    obtain rfl : n = 0 := by
      rcases Nat.eq_zero_or_pos n with h0 | h0
      · exact h0
      · obtain ⟨b, o, c, t, w, m, e, _⟩ := h.at h0; cases e
    obtain rfl : c = [] := List.eq_nil_of_length_eq_zero (by omega)
    refine walk none0 ?_
    exact Fresh.nil Upd.rfl
  | some p =>
    refine walk none0 ?_
    refine Oq.append (own := (OwnSl.mk (n := 0) (cs := []) (by simp) (by simp) (by simp))) (new := c) (m := n) (by simp (disch := omega) [hlen, -getElem?_pos, wrapI64, tdivN, tmodN, ipos, ineg, dpos, dneg, slc_l, slc_h, slc_lh, slc_hm, slc_lhm, slc_0, slcR_some, slcR_none, cutS_ok, cutA_ok, byteAt_ok]; first | done | (repeat' (first | rfl | apply And.intro))) ⟨_, rfl, by simp; first | done | (repeat' (first | rfl | apply And.intro))⟩ rfl (by kernel_rfl) (by kernel_rfl) ((h.push _).src') hlen h1 (by omega) (by omega) fun v' H' o1 b1 s1 => ?_
    rw [Nat.zero_add, List.nil_append] at o1
    refine walk none0 ?_
    exact (Fresh.made (H0 := H) (cs := []) (n := 0) (elem := 61) (s := 5) (Upd.rfl.push _) (by simp) (Nat.le_refl _) (by simp) (by simp)).app o1 b1 s1
theorem grow29 (n : Int) (H : Heap) (h0 : 0 ≤ n) (hn : n ≤ 2 ^ 40) :
    Cl Try.prog pr11 27 [.slice none 0 0 none, .int .i64 n] H fun w H' => FreshG H H' 5 1 w 0 [] := by
  refine Cl.enter Try.func27 rfl rfl Try.ntmps27 (by simp) ?_
  by_cases h : 0 < n
  · refine walk none0 ?_
    refine Oq.o1 (opR_appendN (t0 := 27) (u := 5) (bytes := 1) (s := 1) (z := [.int .u8 0]) (k := .i64) (l := n) (by simp) rfl (by kernel_rfl) (by kernel_rfl) h (by omega) (by omega)) ?_
    refine walk none0 ?_
    refine ⟨.inr ⟨H.next, 0, zeros [.int .u8 0] n.toNat, n.toNat, some 1, ?_, by omega, .inr rfl, by simp, by simp, ?_, by simp⟩, Upd.rfl.push _, by simp [slBlock]⟩
    · simp; omega
    · simp [zeros_bytes, zeroB_len]
  · obtain rfl : n = 0 := by omega
    refine walk none0 ?_
    exact FreshG.nil Upd.rfl

/-- Two slices of bytes, one behind the other. -/
theorem concat2 (v w1 w2 : AV) (n1 n2 : Nat) (c1 c2 : List AV) (H : Heap) (h : Sl H 1 v 2 [w1, w2]) (h1 : Sl H 1 w1 n1 c1) (h2 : Sl H 1 w2 n2 c2) (ho1 : c1.all AV.one = true) (ho2 : c2.all AV.one = true) (hn1 : n1 ≤ 2 ^ 30) (hn2 : n2 ≤ 2 ^ 30) :
    Cl Try.prog pr11 25 [v] H fun w H' => FreshG H H' 5 1 w (n1 + n2) (c1 ++ c2) := by
  obtain ⟨a, cap, ex, rfl, hc, _⟩ := h.form
  have hl1 := h1.len
  have hl2 := h2.len
  obtain ⟨b, o, c, t, wr, mk, rfl, hb1, hb2, hb3, hb4⟩ := h.at (by omega)
  have x0 : c[o]? = some w1 := by have := sub_get (i := 0) hb4 (by omega); simpa using this
  have x1 : c[o + 1]? = some w2 := by have := sub_get (i := 1) hb4 (by omega); simpa using this
  obtain ⟨a1, cap1, ex1, rfl, hc1, _⟩ := h1.form
  obtain ⟨a2, cap2, ex2, rfl, hc2, _⟩ := h2.form
  refine Cl.wf fun hw => ?_
  refine Cl.enter Try.func25 rfl rfl Try.ntmps25 (by simp) ?_
  refine walk none0 ?_
  refine Wq.loop (fun m e H' => H' = H ∧ e 0 = .slice (some (b, o)) 2 cap ex ∧ e 9 = .slice (some (b, o)) 2 cap ex ∧ e 10 = .int .i64 2 ∧ ((m = 2 ∧ e 11 = .int .i64 0 ∧ e 3 = .int .i64 0) ∨ (m = 1 ∧ e 11 = .int .i64 1 ∧ e 3 = .int .i64 n1) ∨ (m = 0 ∧ e 11 = .int .i64 2 ∧ e 3 = .int .i64 (n1 + n2 : Nat)))) 2 ?_ ?_
  · exact ⟨rfl, by simp, by simp, by simp, .inl ⟨rfl, by simp, by simp⟩⟩
  · rintro m e H' ⟨rfl, g0, g9, g10, (⟨rfl, g11, g3⟩ | ⟨rfl, g11, g3⟩ | ⟨rfl, g11, g3⟩)⟩
    · refine walk (both g0 (both g9 (both g10 (both g11 (both g3 (both hb2 x0)))))) ?_
      exact Roundq.normal 1 (by omega) ⟨rfl, by simp [g0], by simp [g9], by simp [g10], .inr (.inl ⟨rfl, by simp, by simp⟩)⟩
    · refine walk (both g0 (both g9 (both g10 (both g11 (both g3 (both hb2 x1)))))) ?_
      refine Roundq.normal 0 (by omega) ⟨rfl, by simp [g0], by simp [g9], by simp [g10], .inr (.inr ⟨rfl, by simp, by simp⟩)⟩
    · refine walk (both g0 (both g9 (both g10 (both g11 g3)))) ?_
      refine Cl.wfK ((grow29 (n1 + n2 : Nat) H' (by omega) (by omega)).mono fun w H1 hn1 hf hw1 => ?_)
      refine walk (both g0 (both g9 (both g10 (both g11 g3)))) ?_
      have hb2' := (hf.keep.get hb1).trans hb2
      refine Wq.loop (fun m e H2 => e 25 = .slice (some (b, o)) 2 cap ex ∧ e 26 = .int .i64 2 ∧ ((m = 2 ∧ e 27 = .int .i64 0 ∧ FreshG H' H2 5 1 (e 6) 0 []) ∨ (m = 1 ∧ e 27 = .int .i64 1 ∧ FreshG H' H2 5 1 (e 6) n1 c1) ∨ (m = 0 ∧ e 27 = .int .i64 2 ∧ FreshG H' H2 5 1 (e 6) (n1 + n2) (c1 ++ c2)))) 2 ?_ ?_
      · exact ⟨by simp [g0], by simp, .inl ⟨rfl, by simp, by simpa using hf⟩⟩
      · rintro m e2 H2 ⟨k25, k26, (⟨rfl, k27, kf⟩ | ⟨rfl, k27, kf⟩ | ⟨rfl, k27, kf⟩)⟩
        · have hb3' := (kf.keep.get hb1).trans hb2
          refine walk (both k25 (both k26 (both k27 (both hb3' x0)))) ?_
          refine Oq.appendG (own := kf.own) (new := c1) (m := n1) (by simp (disch := omega) [hb3', x0, -getElem?_pos, wrapI64, tdivN, tmodN, ipos, ineg, dpos, dneg, slc_l, slc_h, slc_lh, slc_hm, slc_lhm, slc_0, slcR_some, slcR_none, cutS_ok, cutA_ok, byteAt_ok]; first | done | (repeat' (first | rfl | apply And.intro))) ⟨_, rfl, by simp; first | done | (repeat' (first | rfl | apply And.intro))⟩ rfl (by kernel_rfl) (by kernel_rfl) ((h1.kept kf.keep).src') (by omega) ho1 (by omega) (by omega) fun v' H3 o1 b1 s1 => ?_
          rw [Nat.zero_add, List.nil_append] at o1
          refine walk (both k25 (both k26 k27)) ?_
          exact Roundq.normal 1 (by omega) ⟨by simp [k25], by simp [k26], .inr (.inl ⟨rfl, by simp, by simpa using kf.app o1 b1 s1⟩)⟩
        · have hb3' := (kf.keep.get hb1).trans hb2
          refine walk (both k25 (both k26 (both k27 (both hb3' x1)))) ?_
          refine Oq.appendG (own := kf.own) (new := c2) (m := n2) (by simp (disch := omega) [hb3', x1, -getElem?_pos, wrapI64, tdivN, tmodN, ipos, ineg, dpos, dneg, slc_l, slc_h, slc_lh, slc_hm, slc_lhm, slc_0, slcR_some, slcR_none, cutS_ok, cutA_ok, byteAt_ok]; first | done | (repeat' (first | rfl | apply And.intro))) ⟨_, rfl, by simp; first | done | (repeat' (first | rfl | apply And.intro))⟩ rfl (by kernel_rfl) (by kernel_rfl) ((h2.kept kf.keep).src') (by omega) ho2 (by omega) (by omega) fun v' H3 o1 b1 s1 => ?_
          refine walk (both k25 (both k26 k27)) ?_
          exact Roundq.normal 0 (by omega) ⟨by simp [k25], by simp [k26], .inr (.inr ⟨rfl, by simp, by simpa using kf.app o1 b1 s1⟩)⟩
        · refine walk (both k25 (both k26 k27)) ?_
          exact kf
end Go.Abs
