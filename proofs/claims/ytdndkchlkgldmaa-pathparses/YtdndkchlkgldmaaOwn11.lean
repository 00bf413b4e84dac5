/- Texts on this program, joined. -/
import Derived.Test.YtdndkchlkgldmaaOwn09
import Derived.Test.YtdndkchlkgldmaaKit10
import Derived.Test.YtdndkchlkgldmaaKit03
import Derived.Test.YtdndkchlkgldmaaKit06
import Derived.Test.YtdndkchlkgldmaaKit08
import Derived.Test.YtdndkchlkgldmaaKit04

/- Chapter 03: names, walked. -/
namespace Go.Abs
open Go.Proofs
set_option maxRecDepth 100000
set_option linter.unusedVariables false
set_option linter.unusedSimpArgs false

def base03 : Prims := orPrims (memPrims [(35, joinAV)]) (orPrims (extPrims [(60, ibAV)]) (extPrims [(25, containsAV)]))
def pr03 : Prims := orPrims (closedPrims [(10, .bool true)]) base03

theorem lives_ok (H : Heap) : Cl Try.prog pr03 10 [] H fun v H' => v = .bool true ∧ H' = H := Cl.prim (v := .bool true) (H' := H) rfl rfl ⟨rfl, rfl⟩
theorem long_ok (s : List UInt8) (H : Heap) : Cl Try.prog pr03 24 [.str s] H fun v H' => v = .bool (decide (32 < (s.length : Int))) ∧ H' = H := by
  refine Cl.enter Try.func24 rfl rfl Try.ntmps24 (by simp) ?_
  refine walk none0 ?_
  exact ⟨rfl, rfl⟩
theorem any_ok (s : List UInt8) (hs : s.length ≤ 3000) (H : Heap) : Cl Try.prog pr03 25 [.str s, .str [47, 0]] H fun v H' => v = .bool (Lib.containsAny s [47, 0]) ∧ H' = H :=
  Cl.prim (v := .bool (Lib.containsAny s [47, 0])) (H' := H) (g := fun args H => match containsAV args with | some v => some (v, H) | none => none) rfl (by simp only [containsAV]; rw [if_pos ⟨trivial, by omega⟩]) ⟨rfl, rfl⟩
def nameE (s : List UInt8) : Int := if s = [] then 2 else if 32 < s.length then 63 else if s = [46] ∨ s = [46, 46] ∨ Lib.containsAny s [47, 0] = true then 22 else 0
theorem name_ok (s : List UInt8) (hs : s.length ≤ 3000) (H : Heap) : Cl Try.prog pr03 8 [.str s] H fun v H' => v = .int .i64 (nameE s) ∧ H' = H := by
  refine Cl.enter Try.func8 rfl rfl Try.ntmps8 (by simp) ?_
  refine walk none0 ?_
  by_cases h0 : s = []
  · subst h0
    refine walk none0 ?_
    exact ⟨rfl, rfl⟩
  · refine walk h0 ?_
    refine (long_ok s H).mono fun v H1 _ ⟨e1, e2⟩ => ?_
    subst e1; subst e2
    by_cases h1 : 32 < s.length
    · refine walk h1 ?_
      exact ⟨by simp [nameE, h0, h1], rfl⟩
    · refine walk h1 ?_
      by_cases h2 : s = [46]
      · subst h2
        refine walk none0 ?_
        exact ⟨rfl, rfl⟩
      · refine walk h2 ?_
        by_cases h3 : s = [46, 46]
        · subst h3
          refine walk none0 ?_
          exact ⟨rfl, rfl⟩
        · refine walk h3 ?_
          refine (any_ok s hs H1).mono fun v H2 _ ⟨e1, e2⟩ => ?_
          subst e1; subst e2
          by_cases h4 : Lib.containsAny s [47, 0] = true
          · refine walk h4 ?_
            exact ⟨by simp [nameE, h0, h1, h4], rfl⟩
          · refine walk h4 ?_
            exact ⟨by simp [nameE, h0, h1, h2, h3, h4], rfl⟩
end Go.Abs

/- Chapter 03: PathNames, walked. -/
namespace Go.Abs
open Go.Proofs
set_option maxRecDepth 100000
set_option linter.unusedVariables false
set_option linter.unusedSimpArgs false

theorem any_spec (s : List UInt8) : (Lib.containsAny s [47, 0] = true ↔ ∃ (k : Nat) (x : UInt8), s[k]? = some x ∧ (x = 47 ∨ x = 0)) := by
  have h0 : ∀ s : List UInt8, (0 ≤ Lib.indexAny s [47, 0] ↔ ∃ x ∈ s, (x = 47 ∨ x = 0)) := by
    intro s
    induction s with
    | nil => simp [Lib.indexAny]
    | cons a l ih =>
      simp only [Lib.indexAny, List.contains_cons, List.contains_nil, Bool.or_false, Bool.or_eq_true, beq_iff_eq]
      by_cases h : a = 47 ∨ a = 0
      · rw [if_pos h]
        simp only [Int.le_refl, true_iff]
        exact ⟨a, by simp, h⟩
      · rw [if_neg h]
        have hge := Lib.indexAny_ge [47, 0] l
        have : (∃ x ∈ a :: l, x = 47 ∨ x = 0) ↔ ∃ x ∈ l, x = 47 ∨ x = 0 := by
          constructor
          · rintro ⟨x, hx, hh⟩
            rcases List.mem_cons.1 hx with rfl | hx
            · exact absurd hh h
            · exact ⟨x, hx, hh⟩
          · rintro ⟨x, hx, hh⟩; exact ⟨x, by simp [hx], hh⟩
        rw [this, ← ih]
        split
        · rename_i he; rw [he]
        · rename_i he; omega
  simp only [Lib.containsAny, decide_eq_true_eq]
  rw [h0]
  constructor
  · rintro ⟨x, hx, hh⟩
    obtain ⟨k, hk⟩ := List.mem_iff_getElem?.1 hx
    exact ⟨k, x, hk, hh⟩
  · rintro ⟨k, x, hk, hh⟩
    exact ⟨x, List.mem_of_getElem? hk, hh⟩
theorem u8_ne {x : UInt8} {n : Nat} (hn : n < 256) (h : x ≠ UInt8.ofNat n) : (x.toNat : Int) ≠ n := by
  intro e
  apply h
  apply UInt8.toNat_inj.1
  rw [UInt8.toNat_ofNat_of_lt' (by simpa using hn)]; omega
theorem get_lt' {α : Type} {l : List α} {i : Nat} (h : i < l.length) : ∃ x, l[i]? = some x := ⟨l[i], by simp [h]⟩
theorem refName_ok (s : List UInt8) (hs : s.length ≤ 3000) (H : Heap) : Cl Try.prog pr03 9 [.str s] H fun v H' => v = .int .i64 (nameE s) ∧ H' = H := by
  refine Cl.enter Try.func9 rfl rfl Try.ntmps9 (by simp) ?_
  refine walk none0 ?_
  by_cases h0 : s = []
  · subst h0
    refine walk none0 ?_
    exact ⟨rfl, rfl⟩
  · refine walk h0 ?_
    by_cases h1 : 32 < s.length
    · refine walk h1 ?_
      exact ⟨by simp [nameE, h0, h1], rfl⟩
    · refine walk h1 ?_
      refine Wq.loop (fun m e H' => ∃ i : Nat, i ≤ s.length ∧ m = s.length - i ∧ H' = H ∧ e 0 = .str s ∧ e 3 = .int .i64 i ∧ ∀ (k : Nat) (x : UInt8), s[k]? = some x → k < i → x ≠ 47 ∧ x ≠ 0) s.length ?_ ?_
      · exact ⟨0, by omega, by omega, rfl, by simp, by simp, fun k x _ h => by omega⟩
      · rintro m e H' ⟨i, hi, rfl, rfl, g0, g3, hlo⟩
        by_cases hlt : i < s.length
        · obtain ⟨x, hx⟩ := get_lt' hlt
          by_cases h2 : x = 47
          · subst h2
            refine walk (both g0 (both g3 (both hlt hx))) ?_
            refine ⟨?_, rfl⟩
            have : Lib.containsAny s [47, 0] = true := (any_spec s).2 ⟨i, _, hx, .inl rfl⟩
            simp [nameE, h0, h1, this]
          · by_cases h3 : x = 0
            · subst h3
              refine walk (both g0 (both g3 (both hlt hx))) ?_
              refine ⟨?_, rfl⟩
              have : Lib.containsAny s [47, 0] = true := (any_spec s).2 ⟨i, _, hx, .inr rfl⟩
              simp [nameE, h0, h1, this]
            · have e2 := u8_ne (n := 47) (by omega) h2
              have e3 := u8_ne (n := 0) (by omega) h3
              refine walk (both g0 (both g3 (both hlt (both hx (both e2 e3))))) ?_
              refine Roundq.normal (s.length - (i + 1)) (by omega) ⟨i + 1, by omega, rfl, rfl, by simp [g0], by simp, fun k y hy hky => ?_⟩
              rcases Nat.lt_or_ge k i with h' | h'
              · exact hlo k y hy h'
              · obtain rfl : k = i := by omega
                rw [hx] at hy; cases hy; exact ⟨h2, h3⟩
        · have hno : Lib.containsAny s [47, 0] = false := by
            rw [Bool.eq_false_iff]
            intro h
            obtain ⟨k, x, hk, hx⟩ := (any_spec s).1 h
            have := hlo k x hk (by have := (List.getElem?_eq_some_iff.1 hk).1; omega)
            rcases hx with rfl | rfl
            · exact this.1 rfl
            · exact this.2 rfl
          refine walk (both g0 (both g3 hlt)) ?_
          by_cases h2 : s = [46]
          · subst h2
            refine walk g0 ?_
            exact ⟨rfl, rfl⟩
          · by_cases h3 : s = [46, 46]
            · subst h3
              refine walk g0 ?_
              exact ⟨rfl, rfl⟩
            · refine walk (both g0 (both h2 h3)) ?_
              exact ⟨by simp [nameE, h0, h1, h2, h3, hno], rfl⟩
theorem pathNames_main (s : List UInt8) (H : Heap) (hl : s.length ≤ maxLen) : Cl Try.prog pr03 3 [.str s] H fun v _ => v = .bool true := by
  refine Cl.enter Try.func3 rfl rfl Try.ntmps3 (by simp) ?_
  refine walk none0 ?_
  by_cases h : 3000 < s.length
  · have ht : (s.take 3000).length ≤ 3000 := by simp; omega
    refine walk h ?_
    refine (name_ok (s.take 3000) ht H).mono fun v H1 _ ⟨e1, e2⟩ => ?_
    subst e1; subst e2
    refine walk none0 ?_
    refine (refName_ok (s.take 3000) ht H1).mono fun v H1 _ ⟨e1, e2⟩ => ?_
    subst e1; subst e2
    refine walk none0 ?_
    refine (lives_ok H1).mono fun v H1 _ ⟨e1, e2⟩ => ?_
    subst e1; subst e2
    refine walk none0 ?_
    rfl
  · refine walk h ?_
    refine (name_ok s (by omega) H).mono fun v H1 _ ⟨e1, e2⟩ => ?_
    subst e1; subst e2
    refine walk none0 ?_
    refine (refName_ok s (by omega) H1).mono fun v H1 _ ⟨e1, e2⟩ => ?_
    subst e1; subst e2
    refine walk none0 ?_
    refine (lives_ok H1).mono fun v H1 _ ⟨e1, e2⟩ => ?_
    subst e1; subst e2
    refine walk none0 ?_
    rfl
end Go.Abs

/- Chapter 03: lists of texts; Names, Same, Own, Clone, walked. -/
namespace Go.Abs
open Go.Proofs
set_option maxRecDepth 100000
set_option linter.unusedVariables false
set_option linter.unusedSimpArgs false

abbrev Txt := List UInt8
def strs (l : List Txt) : List AV := l.map AV.str
@[simp] theorem strs_len (l : List Txt) : (strs l).length = l.length := by simp [strs]
theorem strs_one (l : List Txt) : (strs l).all AV.one = true := by
  rw [List.all_eq_true]; intro x hx; simp [strs] at hx; obtain ⟨y, _, rfl⟩ := hx; rfl
theorem strs_app (l m : List Txt) : strs l ++ strs m = strs (l ++ m) := by simp [strs]
/-- A slice that holds these texts. -/
def Ss (H : Heap) (v : AV) (l : List Txt) : Prop := Sl H 1 v l.length (strs l)
theorem Ss.kept {H H' : Heap} {v : AV} {l : List Txt} (h : Ss H v l) (u : Keep H H') : Ss H' v l := Sl.kept h u
theorem str_at {H : Heap} {a : Option (Nat × Nat)} {n cap : Nat} {ex : Option Nat} {l : List Txt} {i : Nat} {x : Txt} (h : Ss H (.slice a n cap ex) l) (hx : l[i]? = some x) :
    ∃ b o c t w m, a = some (b, o) ∧ n = l.length ∧ b < H.next ∧ H.get b = some (.cells c t w m) ∧ o + i < c.length ∧ c[o + i]? = some (.str x) := by
  have hi := (List.getElem?_eq_some_iff.1 hx).1
  obtain ⟨a', cap', ex', e, _⟩ := Sl.form h
  injection e with e1 e2 e3 e4
  subst e1; subst e2; subst e3; subst e4
  obtain ⟨b, o, c, t, w, m, rfl, h1, h2, h3, h4⟩ := Sl.at h (by omega)
  refine ⟨b, o, c, t, w, m, rfl, rfl, h1, h2, by omega, ?_⟩
  rw [sub_get h4 (by omega)]
  simp [strs, hx]
theorem Ss.form {H : Heap} {v : AV} {l : List Txt} (h : Ss H v l) : ∃ a cap ex, v = .slice a l.length cap ex ∧ l.length ≤ cap ∧ (ex = none ∨ ex = some 1) := Sl.form h

theorem names_ok {H : Heap} {v w : AV} {l m : List Txt} (h : Ss H v l) (h' : Ss H w m) (hL : l.length ≤ 100000) : Cl Try.prog pr03 26 [v, w] H fun r H' => r = .bool (decide (l = m)) ∧ H' = H := by
  obtain ⟨a, cap, ex, rfl, hc, hex⟩ := h.form
  obtain ⟨a', cap', ex', rfl, hc', hex'⟩ := h'.form
  refine Cl.enter Try.func26 rfl rfl Try.ntmps26 (by simp) ?_
  by_cases hl : l.length = m.length
  · refine walk hl ?_
    refine Wq.loop (fun k e H' => ∃ i : Nat, i ≤ l.length ∧ k = l.length - i ∧ H' = H ∧ e 0 = .slice a l.length cap ex ∧ e 1 = .slice a' m.length cap' ex' ∧ e 5 = .int .i64 i ∧ l.take i = m.take i) l.length ?_ ?_
    · exact ⟨0, by omega, by omega, rfl, by simp [hl], by simp, by simp, by simp⟩
    · rintro k e H' ⟨i, hi, rfl, rfl, g0, g1, g5, hlo⟩
      by_cases hlt : i < l.length
      · obtain ⟨x, hx⟩ := get_lt' hlt
        obtain ⟨y, hy⟩ := get_lt' (l := m) (i := i) (by omega)
        obtain ⟨b, o, c, t, w, mk, rfl, _, hb1, hb2, hb3, hb4⟩ := str_at h hx
        obtain ⟨b', o', c', t', w', mk', rfl, _, hb1', hb2', hb3', hb4'⟩ := str_at h' hy
        have hlt' : i < m.length := by omega
        refine walk (both g0 (both g1 (both g5 hlt))) ?_
        refine Wq.regionD [0, 1, 2, 3, 4, 5, 6, 7, 8] (by kernel_rfl) ?_
        by_cases he : x = y
        · subst he
          refine walk (both g0 (both g1 (both g5 (both hlt (both hlt' (both hb2 (both hb3 (both hb4 (both hb2' (both hb3' hb4')))))))))) ?_
          refine Roundq.normal (l.length - (i + 1)) (by omega) ⟨i + 1, by omega, rfl, rfl, by simp [g0], by simp [g1], by simp, ?_⟩
          rw [List.take_add_one, List.take_add_one, hlo, hx, hy]
        · refine walk (both g0 (both g1 (both g5 (both hlt (both hlt' (both hb2 (both hb3 (both hb4 (both hb2' (both hb3' (both hb4' he))))))))))) ?_
          refine ⟨?_, rfl⟩
          have : l ≠ m := by rintro rfl; rw [hx] at hy; injection hy with hy; exact he hy
          simp [this]
      · refine walk (both g0 (both g1 (both g5 hlt))) ?_
        refine ⟨?_, rfl⟩
        rw [List.take_of_length_le (by omega), List.take_of_length_le (by omega)] at hlo
        simp [hlo]
  · refine walk hl ?_
    refine ⟨?_, rfl⟩
    have : l ≠ m := by rintro rfl; exact hl rfl
    simp [this]
end Go.Abs

/- Chapter 03: Same, Own, Clone, IndexFunc, DeleteFunc, walked. -/
namespace Go.Abs
open Go.Proofs
set_option maxRecDepth 100000
set_option linter.unusedVariables false
set_option linter.unusedSimpArgs false

theorem same_ok {H : Heap} {a a' d d' : Bool} {v w : AV} {l m : List Txt} (h : Ss H v l) (h' : Ss H w m) (hL : l.length ≤ 100000) : Cl Try.prog pr03 14 [.agg [.bool a, .bool d, v], .agg [.bool a', .bool d', w]] H fun r H' => r = .bool (decide (a = a' ∧ d = d' ∧ l = m)) ∧ Keep H H' := by
  obtain ⟨va, cap, ex, rfl, hc, hex⟩ := h.form
  obtain ⟨va', cap', ex', rfl, hc', hex'⟩ := h'.form
  have kk : Keep H ((H.push (.cells [.bool a, .bool d, .slice va l.length cap ex] 28 true false)).push (.cells [.bool a', .bool d', .slice va' m.length cap' ex'] 28 true false)) := (Upd.rfl.push _).push _
  refine Cl.enter Try.func14 rfl rfl Try.ntmps14 (by simp) ?_
  refine walk none0 ?_
  by_cases h1 : a = a'
  · subst h1
    by_cases h2 : d = d'
    · subst h2
      refine walk none0 ?_
      refine (names_ok (h.kept kk) (h'.kept kk) hL).mono fun r H1 _ ⟨e1, e2⟩ => ?_
      subst e1; subst e2
      refine walk none0 ?_
      exact ⟨by simp, kk⟩
    · refine walk h2 ?_
      exact ⟨by simp [h2], kk⟩
  · refine walk h1 ?_
    exact ⟨by simp [h1], kk⟩
theorem FreshG.set {H0 H : Heap} {elem : TypeId} {s n : Nat} {v : AV} {cs : List AV} (f : FreshG H0 H elem s v n cs) {b : Nat} (o : AObj) (h0 : H0.next ≤ b) (hb : b < H.next) (hv : slBlock v ≠ some b) : FreshG H0 (H.set b o) elem s v n cs :=
  ⟨f.own.keep (by simp) fun z hz hlt => Heap.get_set_ne _ _ (fun e => hv (by rw [hz, e])), f.keep.set o hb (fun h => by omega), f.new⟩
theorem own_ok {H : Heap} {a d : Bool} {v : AV} {l : List Txt} (h : Ss H v l) (hL : l.length ≤ 100000) : Cl Try.prog pr03 13 [.agg [.bool a, .bool d, v]] H fun r H' => ∃ w, r = .agg [.bool a, .bool d, w] ∧ FreshG H H' 9 1 w l.length (strs l) := by
  obtain ⟨va, cap, ex, rfl, hc, hex⟩ := h.form
  refine Cl.enter Try.func13 rfl rfl Try.ntmps13 (by simp) ?_
  refine walk none0 ?_
  refine Wq.regionM [(4, 0), (5, 0), (6, 0), (7, 0), (0, 0), (1, 2), (2, 0), (3, 2), (8, 0), (9, 0)] (by kernel_rfl) ?_
  refine mwalk none0 ?_
  refine Dq.appendG (own := (.empty _)) (new := strs l) (q := l.length) rfl met_none (by simp (disch := omega) [-getElem?_pos, wrapI64, tdivN, tmodN, ipos, ineg, dpos, dneg, slc_l, slc_h, slc_lh, slc_hm, slc_lhm, slc_0, slcR_some, slcR_none, cutS_ok, cutA_ok, byteAt_ok]; first | done | (repeat' (first | rfl | apply And.intro))) ⟨_, rfl, by simp; first | done | (repeat' (first | rfl | apply And.intro))⟩ rfl (by kernel_rfl) (by kernel_rfl) ((Sl.push (Sl.push (Sl.push h _) _) _).src') (by simp) (strs_one l) (by omega) (by omega) fun w1 H1 o1 b1 s1 => ?_
  have hn1 := b1.1
  simp at hn1
  have hg1 : H1.get H.next = some (.cells [.bool a, .bool d, .slice va l.length cap ex] 28 true false) := by
    rw [b1.2.2 H.next (by simp <;> omega) (by simp [slBlock] <;> omega)]
    simp (disch := omega) [ineg]
  have hg2 : H1.get (H.next + 1) = some (.cells [.bool false, .bool false, .slice none 0 0 none] 28 true false) := by
    rw [b1.2.2 (H.next + 1) (by simp <;> omega) (by simp [slBlock] <;> omega)]
    simp (disch := omega) [ineg]
  rw [Nat.zero_add, List.nil_append] at o1
  have f1 : FreshG H H1 9 1 w1 l.length (strs l) := (FreshG.made (H0 := H) (cs := []) (n := 0) (elem := 9) (s := 1) (((Upd.rfl.push _).push _).push _) (by simp) (b := H.next + 1 + 1) (by omega) (by simp) (by simp)).app o1 b1 s1
  obtain ⟨wa1, wc1, wx1, rfl, hwc, hwx⟩ := o1.form
  refine mwalk (both hg1 hg2) ?_
  refine walk none0 ?_
  exact ⟨_, rfl, f1.set _ (by omega) (by omega) (by rcases s1 with e | e <;> rw [e] <;> simp [slBlock] <;> omega)⟩
theorem clone_ok {H : Heap} {v : AV} {l : List Txt} (h : Ss H v l) (hL : l.length ≤ 100000) : Cl Try.prog pr03 28 [v] H fun w H' => FreshG H H' 9 1 w l.length (strs l) := by
  obtain ⟨a, cap, ex, rfl, hc, hex⟩ := h.form
  refine Cl.enter Try.func28 rfl rfl Try.ntmps28 (by simp) ?_
  cases a with
  | none =>
    obtain rfl : l = [] := by
      rcases l with _ | ⟨x, l⟩
      · rfl
      · obtain ⟨b, o, c, t, w, m, e, _⟩ := str_at h (i := 0) rfl; cases e
    refine walk none0 ?_
    exact FreshG.nil Upd.rfl
  | some p =>
    refine walk none0 ?_
    refine Oq.appendG (own := (.empty _)) (new := strs l) (m := l.length) (by simp (disch := omega) [-getElem?_pos, wrapI64, tdivN, tmodN, ipos, ineg, dpos, dneg, slc_l, slc_h, slc_lh, slc_hm, slc_lhm, slc_0, slcR_some, slcR_none, cutS_ok, cutA_ok, byteAt_ok]; first | done | (repeat' (first | rfl | apply And.intro))) ⟨_, rfl, by simp; first | done | (repeat' (first | rfl | apply And.intro))⟩ rfl (by kernel_rfl) (by kernel_rfl) ((Sl.push h _).src') (by simp) (strs_one l) (by omega) (by omega) fun v' H' o1 b1 s1 => ?_
    rw [Nat.zero_add, List.nil_append] at o1
    refine walk none0 ?_
    exact (FreshG.made (H0 := H) (cs := []) (n := 0) (elem := 9) (s := 1) (Upd.rfl.push _) (by simp) (Nat.le_refl _) (by simp) (by simp)).app o1 b1 s1
theorem here_ok (s : Txt) (H : Heap) : Cl Try.prog pr03 29 [.str s] H fun v H' => v = .bool (s == [46]) ∧ H' = H := by
  refine Cl.enter Try.func29 rfl rfl Try.ntmps29 (by simp) ?_
  refine walk none0 ?_
  exact ⟨rfl, rfl⟩
/-- A function over texts that tells without a trace. -/
def Tells (f : Nat) (p : Txt → Bool) : Prop := ∀ (s : Txt) (H : Heap), Cl Try.prog pr03 f [.str s] H fun v H' => v = .bool (p s) ∧ H' = H
theorem idxFunc_ok {H : Heap} {v : AV} {l : List Txt} {f : Nat} {p : Txt → Bool} (hf : Tells f p) (h : Ss H v l) (hL : l.length ≤ 100000) : Cl Try.prog pr03 38 [v, .func (.func f) [] []] H fun w H' => H' = H ∧
    ((w = .int .i64 (-1) ∧ ∀ x ∈ l, p x = false) ∨ ∃ (i : Nat) (x : Txt), w = .int .i64 i ∧ l[i]? = some x ∧ p x = true ∧ ∀ (k : Nat) (y : Txt), k < i → l[k]? = some y → p y = false) := by
  obtain ⟨a, cap, ex, rfl, hc, hex⟩ := h.form
  refine Cl.enter Try.func38 rfl rfl Try.ntmps38 (by simp) ?_
  refine walk none0 ?_
  refine Wq.loop (fun k e H' => ∃ i : Nat, i ≤ l.length ∧ k = l.length - i ∧ H' = H ∧ e 0 = .slice a l.length cap ex ∧ e 1 = .func (.func f) [] [] ∧ e 7 = .int .i64 l.length ∧ e 8 = .int .i64 i ∧ ∀ (k : Nat) (y : Txt), k < i → l[k]? = some y → p y = false) l.length ?_ ?_
  · exact ⟨0, by omega, by omega, rfl, by simp, by simp, by simp, by simp, fun k y hk => by omega⟩
  · rintro k e H' ⟨i, hi, rfl, rfl, g0, g1, g7, g8, hlo⟩
    by_cases hlt : i < l.length
    · obtain ⟨x, hx⟩ := get_lt' hlt
      obtain ⟨b, o, c, t, w, mk, rfl, _, hb1, hb2, hb3, hb4⟩ := str_at h hx
      refine walk (both g0 (both g1 (both g7 (both g8 (both hlt (both hb2 (both hb3 hb4))))))) ?_
      refine (hf x H').mono fun r H1 _ ⟨e1, e2⟩ => ?_
      subst e1; subst e2
      by_cases hp : p x = true
      · refine walk (both g0 (both g1 (both g7 (both g8 hp)))) ?_
        exact ⟨rfl, .inr ⟨i, x, rfl, hx, hp, hlo⟩⟩
      · refine walk (both g0 (both g1 (both g7 (both g8 hp)))) ?_
        refine Roundq.normal (l.length - (i + 1)) (by omega) ⟨i + 1, by omega, rfl, rfl, by simp [g0], by simp [g1], by simp [g7], by simp, fun k y hk hy => ?_⟩
        rcases Nat.lt_or_ge k i with h' | h'
        · exact hlo k y h' hy
        · obtain rfl : k = i := by omega
          rw [hx] at hy; cases hy; simpa using hp
    · refine walk (both g0 (both g1 (both g7 (both g8 hlt)))) ?_
      refine ⟨rfl, .inl ⟨rfl, fun x hx => ?_⟩⟩
      obtain ⟨k, hk⟩ := List.mem_iff_getElem?.1 hx
      exact hlo k x (by have := (List.getElem?_eq_some_iff.1 hk).1; omega) hk
end Go.Abs

/- Chapter 03: DeleteFunc, walked. -/
namespace Go.Abs
open Go.Proofs
set_option maxRecDepth 100000
set_option linter.unusedVariables false
set_option linter.unusedSimpArgs false

theorem strs_take (l : List Txt) (n : Nat) : (strs l).take n = strs (l.take n) := by simp [strs]
theorem filter_take_add {q : Txt → Bool} {l : List Txt} {j : Nat} {x : Txt} (hx : l[j]? = some x) : (l.take (j + 1)).filter q = (l.take j).filter q ++ (if q x then [x] else []) := by
  rw [List.take_add_one, hx, List.filter_append]; cases h : q x <;> simp [h]
theorem filter_none {q : Txt → Bool} {l : List Txt} {i : Nat} {x : Txt} (hx : l[i]? = some x) (hq : q x = false) (hlo : ∀ (k : Nat) (y : Txt), k < i → l[k]? = some y → q y = true) : (l.take (i + 1)).filter q = l.take i := by
  rw [filter_take_add hx, hq]
  simp only [Bool.false_eq_true, if_false, List.append_nil]
  rw [List.filter_eq_self]
  intro a ha
  obtain ⟨k, hk⟩ := List.mem_iff_getElem?.1 ha
  have hlt := (List.getElem?_eq_some_iff.1 hk).1
  rw [List.length_take] at hlt
  rw [List.getElem?_take_of_lt (by omega)] at hk
  exact hlo k a (by omega) hk
theorem delFunc_ok {H : Heap} {v : AV} {l : List Txt} {f : Nat} {p : Txt → Bool} (hf : Tells f p) (h : OwnG H 9 1 v l.length (strs l)) (hL : l.length ≤ 100000) :
    Cl Try.prog pr03 27 [v, .func (.func f) [] []] H fun w H' => Ss H' w (l.filter fun s => !p s) ∧ Upd (fun z => slBlock v = some z) H H' ∧ (slBlock w = slBlock v) := by
  obtain ⟨a, cap, ex, rfl, hc, hex⟩ := h.form
  refine Cl.enter Try.func27 rfl rfl Try.ntmps27 (by simp) ?_
  refine walk none0 ?_
  refine (idxFunc_ok hf h.sl hL).mono fun w H1 _ ⟨e0, hw⟩ => ?_
  subst e0
  rcases hw with ⟨rfl, hall⟩ | ⟨i, x, rfl, hx, hp, hlo⟩
  · refine walk none0 ?_
    rw [List.filter_eq_self.2 fun s hs => by simp [hall s hs]]
    exact ⟨h.sl, Upd.rfl, rfl⟩
  · have hi := (List.getElem?_eq_some_iff.1 hx).1
    obtain ⟨b, o, c, rfl, h0, h1, h2, h3, h4, h5, h6⟩ := h.at (by omega)
    have hi1 : ¬ ((i : Int) = -1) := by omega
    refine walk (both hi hi1) ?_
    refine Wq.loop (fun k e H' => ∃ (i j : Nat) (c' : List AV) (m : List Txt), i < j ∧ j ≤ l.length ∧ k = l.length - j ∧ e 0 = .slice (some (b, o)) l.length cap ex ∧ e 1 = .func (.func f) [] [] ∧ e 5 = .int .i64 i ∧ e 6 = .int .i64 j ∧
      H'.get b = some (.cells c' 9 true false) ∧ c'.length = c.length ∧ (c'.drop o).take l.length = strs m ∧ m.length = l.length ∧ m.take i = (l.take j).filter (fun s => !p s) ∧ m.drop j = l.drop j ∧ Upd (fun z => z = b) H1 H') (l.length - (i + 1)) ?_ ?_
    · refine ⟨i, i + 1, c, l, by omega, by omega, by omega, by simp, by simp, by simp, by simp, h3, rfl, by simpa using h6, rfl, ?_, rfl, Upd.rfl⟩
      rw [filter_none hx (by simp [hp]) (fun k y hk hy => by simp [hlo k y hk hy])]
    · rintro k e H2 ⟨i, j, c', m, hij, hj, rfl, g0, g1, g5, g6, hg, hcl, hcm, hml, hmt, hmd, hU⟩
      have hUn := hU.next
      by_cases hlt : j < l.length
      · obtain ⟨y, hy⟩ := get_lt' hlt
        have hym : m[j]? = some y := by
          have : (m.drop j)[0]? = (l.drop j)[0]? := by rw [hmd]
          simpa [hy] using this
        have hcj : c'[o + j]? = some (.str y) := by
          rw [sub_get hcm (by omega)]; simp [strs, hym]
        have hjc : o + j < c'.length := by omega
        have hic : o + i < c'.length := by omega
        refine walk (both g0 (both g1 (both g5 (both g6 (both hlt (both hg (both hcj hjc))))))) ?_
        refine (hf y H2).mono fun r H3 _ ⟨e1, e2⟩ => ?_
        subst e1; subst e2
        by_cases hp' : p y = true
        · refine walk (both g0 (both g1 (both g5 (both g6 hp')))) ?_
          refine Roundq.normal (l.length - (j + 1)) (by omega) ⟨i, j + 1, c', m, by omega, by omega, rfl, by simp [g0], by simp [g1], by simp [g5], by simp, hg, hcl, hcm, hml, ?_, ?_, hU⟩
          · rw [filter_take_add hy, hmt]; simp [hp']
          · rw [← List.drop_drop, ← List.drop_drop, hmd]
        · have hil : i < l.length := by omega
          refine walk (both g0 (both g1 (both g5 (both g6 (both hp' (both hlt (both hil (both hg hic)))))))) ?_
          refine Roundq.normal (l.length - (j + 1)) (by omega) ⟨i + 1, j + 1, c'.set (o + i) (.str y), m.set i y, by omega, by omega, rfl, by simp [g0], by simp [g1], by simp, by simp, Heap.get_set_same _ _ _, by simp [hcl], ?_, by simp [hml], ?_, ?_, hU.set _ (by omega) (fun _ => rfl)⟩
          · rw [set_sub hcm hil]; simp [strs, List.map_set]
          · rw [List.take_add_one, List.getElem?_set_self (by omega), List.take_set_of_le (Nat.le_refl _), hmt, filter_take_add hy]; simp [hp']
          · rw [List.drop_set_of_lt (by omega), ← List.drop_drop, ← List.drop_drop, hmd]
      · have hjl : j = l.length := by omega
        subst hjl
        have hil : i < l.length := hij
        refine walk (both g0 (both g1 (both g5 (both g6 (both hlt hil))))) ?_
        refine Oq.clearG (b := b) (o := o + i) (k := l.length - i) (s := 1) (cd := c') (by simp; first | done | (repeat' (first | rfl | apply And.intro))) ⟨_, rfl, by simp; first | done | (repeat' (first | rfl | apply And.intro))⟩ (by omega) (by omega) hg (by omega) rfl ?_
        have hmi : (l.filter fun s => !p s) = m.take i := by rw [hmt, List.take_of_length_le (Nat.le_refl _)]
        have hmil : (m.take i).length = i := List.length_take_of_le (by omega)
        refine walk (both g0 (both g1 (both g5 (both g6 hil)))) ?_
        have hT : (c'.take (o + i)).length = o + i := List.length_take_of_le (by omega)
        have key : ∀ X : List AV, ((c'.take (o + i) ++ X).drop o).take i = strs (m.take i) := by
          intro X
          rw [List.drop_append_of_le_length (by omega), List.take_append_of_le_length (by rw [List.length_drop]; omega), ← strs_take, ← hcm, List.take_take, List.drop_take, List.take_take, Nat.min_eq_left (by omega)]
          congr 1
          omega
        rw [hmi]
        refine ⟨?_, (hU.set _ (by omega) (fun _ => rfl)).mono (fun z _ e => by simp [slBlock, e]), rfl⟩
        unfold Ss Sl
        refine ⟨by simp, .inr ⟨b, o, cap, ex, by rw [hmil], by omega, h1, fun _ => ⟨by simp; omega, _, _, _, _, Heap.get_set_same _ _ _, ?_, ?_⟩⟩⟩
        · rw [List.length_append, hT]; omega
        · rw [hmil, Nat.mul_one]; exact key _
end Go.Abs

/- Chapter 03: short, walked. -/
namespace Go.Abs
open Go.Proofs
set_option maxRecDepth 100000
set_option linter.unusedVariables false
set_option linter.unusedSimpArgs false

def cut100 (l : List Txt) : List Txt := l.map fun s => s.take 100
def shortL (l : List Txt) : List Txt := cut100 (l.take 100)
theorem shortL_len (l : List Txt) : (shortL l).length ≤ 100 := by simp [shortL, cut100]; omega
theorem shortL_txt (l : List Txt) : ∀ x ∈ shortL l, x.length ≤ 100 := by
  intro x hx
  unfold shortL cut100 at hx
  obtain ⟨y, _, rfl⟩ := List.mem_map.1 hx
  rw [List.length_take]; omega
theorem sub1 {H : Heap} {b o cap : Nat} {ex : Option Nat} {l : List Txt} {n : Nat} (h : Ss H (.slice (some (b, o)) l.length cap ex) l) (hn : n ≤ l.length) (hc : l.length ≤ cap) (hex : ex = none ∨ ex = some 1) : Ss H (.slice (some (b, o)) n cap ex) (l.take n) := by
  have := Sl.sub h (k := 0) (m := n) (cap' := cap) (ex' := ex) (by omega) (by omega) hex
  simp only [Nat.zero_mul, Nat.add_zero, List.drop_zero, Nat.mul_one] at this
  unfold Ss
  rw [List.length_take, Nat.min_eq_left hn, ← strs_take]
  exact this
theorem short_ok {H : Heap} {a d : Bool} {v : AV} {l : List Txt} (h : Ss H v l) : Cl Try.prog pr03 11 [.agg [.bool a, .bool d, v]] H fun r H' => ∃ w, r = .agg [.bool a, .bool d, w] ∧ FreshG H H' 9 1 w (shortL l).length (strs (shortL l)) := by
  obtain ⟨va, cap, ex, rfl, hc, hex⟩ := h.form
  refine Cl.enter Try.func11 rfl rfl Try.ntmps11 (by simp) ?_
  refine walk none0 ?_
  by_cases h1 : 100 < l.length
  · obtain ⟨x0, hx0⟩ := get_lt' (l := l) (i := 0) (by omega)
    obtain ⟨b, o, c, t, w, mk, rfl, hl1, hb1, hb2, hb3, hb4⟩ := str_at h hx0
    have h' := sub1 h (n := 100) (by omega) hc hex
    unfold shortL
    have hlen : (l.take 100).length = 100 := List.length_take_of_le (by omega)
    generalize l.take 100 = l' at *
    rw [← hlen] at h'
    have hl' : l'.length ≤ 100 := by omega
    refine walk h1 ?_
    rw [show AV.slice (some (b, o)) 100 cap ex = AV.slice (some (b, o)) l'.length cap ex by rw [hlen]]
    clear hx0 hb1 hb2 hb3 hb4
    generalize hva : (some (b, o) : Option (Nat × Nat)) = va at *
    refine Wq.loop (fun k e H' => ∃ (i : Nat) (w : AV), i ≤ l'.length ∧ k = l'.length - i ∧ e 1 = .ptr (some (H.next, 0)) ∧ e 2 = .ptr (some (H.next + 1, 0)) ∧ e 3 = w ∧ e 4 = .int .i64 i ∧
      H'.get H.next = some (.cells [.bool a, .bool d, .slice va l'.length cap ex] 28 true false) ∧ H'.get (H.next + 1) = some (.cells [.bool false, .bool false, .slice none 0 0 none] 28 true false) ∧ FreshG H H' 9 1 w i (strs ((cut100 l').take i)) ∧ (∀ z, slBlock w = some z → H.next + 2 ≤ z ∧ z < H'.next) ∧ H.next + 2 ≤ H'.next) l'.length ?_ ?_
    · refine ⟨0, _, by omega, by omega, by simp, by simp, by simp; rfl, by simp, ?_, ?_, ?_, ?_, ?_⟩
      · simp (disch := omega) [ineg]
      · simp (disch := omega) [ineg]
      · refine FreshG.made ?_ (by simp) (b := H.next + 1 + 1) (by omega) (by simp) (by simp (disch := omega) [ineg, strs])
        exact ((((Upd.rfl.push _).push _).set _ (by simp; omega) (fun h => by omega)).push _)
      · intro z hz; simp [slBlock] at hz; subst hz; simp
      · simp
    · rintro k e H' ⟨i, w, hi, rfl, g1, g2, g3, g4, hp, hr, hF, hz, hn⟩
      obtain ⟨wa, wc, wx, rfl, hwc, hwx⟩ := hF.own.form
      by_cases hlt : i < l'.length
      · obtain ⟨x, hx⟩ := get_lt' (l := l') (i := i) (by omega)
        have hxs : (cut100 l')[i]? = some (x.take 100) := by simp [cut100, hx]
        obtain ⟨b, o, c, t, w, mk, rfl, hl1, hb1, hb2, hb3, hb4⟩ := str_at h' hx
        have hb2' := (hF.keep.get hb1).trans hb2
        by_cases hxl : 100 < x.length
        · refine walk (both g1 (both g2 (both g3 (both g4 (both hp (both hr (both hlt (both hb2' (both hb3 (both hb4 hxl)))))))))) ?_
          have kB : Keep H' (H'.push (.cells [.str (x.take 100)] 9 true false)) := Upd.rfl.push _
          refine Oq.appendL (own := (hF.own.kept kB)) (new := [.str (x.take 100)]) (m := 1) (by simp (disch := omega) [g3, hxl, -getElem?_pos, wrapI64, tdivN, tmodN, ipos, ineg, dpos, dneg, slc_l, slc_h, slc_lh, slc_hm, slc_lhm, slc_0, slcR_some, slcR_none, cutS_ok, cutA_ok, byteAt_ok]; first | done | (repeat' (first | rfl | apply And.intro))) ⟨_, rfl, by simp; first | done | (repeat' (first | rfl | apply And.intro))⟩ rfl (by kernel_rfl) (by kernel_rfl) (by refine ⟨by simp, ?_⟩; simp (disch := omega) [srcCells, cellsAt, g3, hxl, -getElem?_pos, wrapI64, tdivN, tmodN, ipos, ineg, dpos, dneg, slc_l, slc_h, slc_lh, slc_hm, slc_lhm, slc_0, slcR_some, slcR_none, cutS_ok, cutA_ok, byteAt_ok]; first | done | rfl) (by simp [g3, hxl]) (by simp [g3, hxl]) (by omega) (by omega) fun w1 H1 o1 b1 s1 l1 => ?_
          have hk1 : ∀ z, z < H.next + 2 → H1.get z = H'.get z := by
            intro z hz'
            rw [b1.2.2 z (by simp; omega) (fun e => by have := (hz z e.symm).1; omega), Heap.get_push, if_neg (by omega)]
          have hn1 : H'.next + 1 ≤ H1.next := by have := b1.1; simpa using this
          have hp1 := (hk1 H.next (by omega)).trans hp
          have hr1 := (hk1 (H.next + 1) (by omega)).trans hr
          refine walk (both g1 (both g2 (both g3 g4))) ?_
          refine Roundq.normal (l'.length - (i + 1)) (by omega) ⟨i + 1, w1, by omega, rfl, by simp [g1], by simp [g2], by simp, by simp, hp1, hr1, ?_, ?_, by omega⟩
          · rw [List.take_add_one, hxs, ← strs_app]
            exact (hF.then kB).app o1 b1 s1
          · intro z hz1
            have hlt1 : z < H1.next := by
              rcases l1 z hz1 with e | e
              · have := hz z e; omega
              · exact e
            rcases s1 with e | e
            · rw [e] at hz1; have := hz z hz1; omega
            · rw [e] at hz1; simp at hz1; omega
        · have hxt : x.take 100 = x := List.take_of_length_le (by omega)
          rw [hxt] at hxs
          refine walk (both g1 (both g2 (both g3 (both g4 (both hp (both hr (both hlt (both hb2' (both hb3 (both hb4 hxl)))))))))) ?_
          have kB : Keep H' (H'.push (.cells [.str x] 9 true false)) := Upd.rfl.push _
          refine Oq.appendL (own := (hF.own.kept kB)) (new := [.str x]) (m := 1) (by simp (disch := omega) [g3, hxl, -getElem?_pos, wrapI64, tdivN, tmodN, ipos, ineg, dpos, dneg, slc_l, slc_h, slc_lh, slc_hm, slc_lhm, slc_0, slcR_some, slcR_none, cutS_ok, cutA_ok, byteAt_ok]; first | done | (repeat' (first | rfl | apply And.intro))) ⟨_, rfl, by simp; first | done | (repeat' (first | rfl | apply And.intro))⟩ rfl (by kernel_rfl) (by kernel_rfl) (by refine ⟨by simp, ?_⟩; simp (disch := omega) [srcCells, cellsAt, g3, hxl, -getElem?_pos, wrapI64, tdivN, tmodN, ipos, ineg, dpos, dneg, slc_l, slc_h, slc_lh, slc_hm, slc_lhm, slc_0, slcR_some, slcR_none, cutS_ok, cutA_ok, byteAt_ok]; first | done | rfl) (by simp [g3, hxl]) (by simp [g3, hxl]) (by omega) (by omega) fun w1 H1 o1 b1 s1 l1 => ?_
          have hk1 : ∀ z, z < H.next + 2 → H1.get z = H'.get z := by
            intro z hz'
            rw [b1.2.2 z (by simp; omega) (fun e => by have := (hz z e.symm).1; omega), Heap.get_push, if_neg (by omega)]
          have hn1 : H'.next + 1 ≤ H1.next := by have := b1.1; simpa using this
          have hp1 := (hk1 H.next (by omega)).trans hp
          have hr1 := (hk1 (H.next + 1) (by omega)).trans hr
          refine walk (both g1 (both g2 (both g3 g4))) ?_
          refine Roundq.normal (l'.length - (i + 1)) (by omega) ⟨i + 1, w1, by omega, rfl, by simp [g1], by simp [g2], by simp, by simp, hp1, hr1, ?_, ?_, by omega⟩
          · rw [List.take_add_one, hxs, ← strs_app]
            exact (hF.then kB).app o1 b1 s1
          · intro z hz1
            have hlt1 : z < H1.next := by
              rcases l1 z hz1 with e | e
              · have := hz z e; omega
              · exact e
            rcases s1 with e | e
            · rw [e] at hz1; have := hz z hz1; omega
            · rw [e] at hz1; simp at hz1; omega
      · obtain rfl : i = l'.length := by omega
        rw [List.take_of_length_le (by simp [cut100])] at hF
        refine walk (both g1 (both g2 (both g3 (both g4 (both hp (both hr hlt)))))) ?_
        have hcl : (cut100 l').length = l'.length := by simp [cut100]
        rw [hcl]
        refine ⟨_, rfl, (hF.set _ (by omega) (by omega) ?_).set _ (by omega) (by simp; omega) ?_⟩
        · intro e; have := (hz _ e).1; omega
        · intro e; have := (hz _ e).1; omega
  · refine walk h1 ?_
    have h' := h
    unfold shortL
    rw [List.take_of_length_le (by omega)]
    have hl' : l.length ≤ 100 := by omega
    generalize l = l' at *
    refine Wq.loop (fun k e H' => ∃ (i : Nat) (w : AV), i ≤ l'.length ∧ k = l'.length - i ∧ e 1 = .ptr (some (H.next, 0)) ∧ e 2 = .ptr (some (H.next + 1, 0)) ∧ e 3 = w ∧ e 4 = .int .i64 i ∧
      H'.get H.next = some (.cells [.bool a, .bool d, .slice va l'.length cap ex] 28 true false) ∧ H'.get (H.next + 1) = some (.cells [.bool false, .bool false, .slice none 0 0 none] 28 true false) ∧ FreshG H H' 9 1 w i (strs ((cut100 l').take i)) ∧ (∀ z, slBlock w = some z → H.next + 2 ≤ z ∧ z < H'.next) ∧ H.next + 2 ≤ H'.next) l'.length ?_ ?_
    · refine ⟨0, _, by omega, by omega, by simp, by simp, by simp; rfl, by simp, ?_, ?_, ?_, ?_, ?_⟩
      · simp (disch := omega) [ineg]
      · simp (disch := omega) [ineg]
      · refine FreshG.made ?_ (by simp) (b := H.next + 1 + 1) (by omega) (by simp) (by simp (disch := omega) [ineg, strs])
        exact ((Upd.rfl.push _).push _).push _
      · intro z hz; simp [slBlock] at hz; subst hz; simp
      · simp
    · rintro k e H' ⟨i, w, hi, rfl, g1, g2, g3, g4, hp, hr, hF, hz, hn⟩
      obtain ⟨wa, wc, wx, rfl, hwc, hwx⟩ := hF.own.form
      by_cases hlt : i < l'.length
      · obtain ⟨x, hx⟩ := get_lt' (l := l') (i := i) (by omega)
        have hxs : (cut100 l')[i]? = some (x.take 100) := by simp [cut100, hx]
        obtain ⟨b, o, c, t, w, mk, rfl, hl1, hb1, hb2, hb3, hb4⟩ := str_at h' hx
        have hb2' := (hF.keep.get hb1).trans hb2
        by_cases hxl : 100 < x.length
        · refine walk (both g1 (both g2 (both g3 (both g4 (both hp (both hr (both hlt (both hb2' (both hb3 (both hb4 hxl)))))))))) ?_
          have kB : Keep H' (H'.push (.cells [.str (x.take 100)] 9 true false)) := Upd.rfl.push _
          refine Oq.appendL (own := (hF.own.kept kB)) (new := [.str (x.take 100)]) (m := 1) (by simp (disch := omega) [g3, hxl, -getElem?_pos, wrapI64, tdivN, tmodN, ipos, ineg, dpos, dneg, slc_l, slc_h, slc_lh, slc_hm, slc_lhm, slc_0, slcR_some, slcR_none, cutS_ok, cutA_ok, byteAt_ok]; first | done | (repeat' (first | rfl | apply And.intro))) ⟨_, rfl, by simp; first | done | (repeat' (first | rfl | apply And.intro))⟩ rfl (by kernel_rfl) (by kernel_rfl) (by refine ⟨by simp, ?_⟩; simp (disch := omega) [srcCells, cellsAt, g3, hxl, -getElem?_pos, wrapI64, tdivN, tmodN, ipos, ineg, dpos, dneg, slc_l, slc_h, slc_lh, slc_hm, slc_lhm, slc_0, slcR_some, slcR_none, cutS_ok, cutA_ok, byteAt_ok]; first | done | rfl) (by simp [g3, hxl]) (by simp [g3, hxl]) (by omega) (by omega) fun w1 H1 o1 b1 s1 l1 => ?_
          have hk1 : ∀ z, z < H.next + 2 → H1.get z = H'.get z := by
            intro z hz'
            rw [b1.2.2 z (by simp; omega) (fun e => by have := (hz z e.symm).1; omega), Heap.get_push, if_neg (by omega)]
          have hn1 : H'.next + 1 ≤ H1.next := by have := b1.1; simpa using this
          have hp1 := (hk1 H.next (by omega)).trans hp
          have hr1 := (hk1 (H.next + 1) (by omega)).trans hr
          refine walk (both g1 (both g2 (both g3 g4))) ?_
          refine Roundq.normal (l'.length - (i + 1)) (by omega) ⟨i + 1, w1, by omega, rfl, by simp [g1], by simp [g2], by simp, by simp, hp1, hr1, ?_, ?_, by omega⟩
          · rw [List.take_add_one, hxs, ← strs_app]
            exact (hF.then kB).app o1 b1 s1
          · intro z hz1
            have hlt1 : z < H1.next := by
              rcases l1 z hz1 with e | e
              · have := hz z e; omega
              · exact e
            rcases s1 with e | e
            · rw [e] at hz1; have := hz z hz1; omega
            · rw [e] at hz1; simp at hz1; omega
        · have hxt : x.take 100 = x := List.take_of_length_le (by omega)
          rw [hxt] at hxs
          refine walk (both g1 (both g2 (both g3 (both g4 (both hp (both hr (both hlt (both hb2' (both hb3 (both hb4 hxl)))))))))) ?_
          have kB : Keep H' (H'.push (.cells [.str x] 9 true false)) := Upd.rfl.push _
          refine Oq.appendL (own := (hF.own.kept kB)) (new := [.str x]) (m := 1) (by simp (disch := omega) [g3, hxl, -getElem?_pos, wrapI64, tdivN, tmodN, ipos, ineg, dpos, dneg, slc_l, slc_h, slc_lh, slc_hm, slc_lhm, slc_0, slcR_some, slcR_none, cutS_ok, cutA_ok, byteAt_ok]; first | done | (repeat' (first | rfl | apply And.intro))) ⟨_, rfl, by simp; first | done | (repeat' (first | rfl | apply And.intro))⟩ rfl (by kernel_rfl) (by kernel_rfl) (by refine ⟨by simp, ?_⟩; simp (disch := omega) [srcCells, cellsAt, g3, hxl, -getElem?_pos, wrapI64, tdivN, tmodN, ipos, ineg, dpos, dneg, slc_l, slc_h, slc_lh, slc_hm, slc_lhm, slc_0, slcR_some, slcR_none, cutS_ok, cutA_ok, byteAt_ok]; first | done | rfl) (by simp [g3, hxl]) (by simp [g3, hxl]) (by omega) (by omega) fun w1 H1 o1 b1 s1 l1 => ?_
          have hk1 : ∀ z, z < H.next + 2 → H1.get z = H'.get z := by
            intro z hz'
            rw [b1.2.2 z (by simp; omega) (fun e => by have := (hz z e.symm).1; omega), Heap.get_push, if_neg (by omega)]
          have hn1 : H'.next + 1 ≤ H1.next := by have := b1.1; simpa using this
          have hp1 := (hk1 H.next (by omega)).trans hp
          have hr1 := (hk1 (H.next + 1) (by omega)).trans hr
          refine walk (both g1 (both g2 (both g3 g4))) ?_
          refine Roundq.normal (l'.length - (i + 1)) (by omega) ⟨i + 1, w1, by omega, rfl, by simp [g1], by simp [g2], by simp, by simp, hp1, hr1, ?_, ?_, by omega⟩
          · rw [List.take_add_one, hxs, ← strs_app]
            exact (hF.then kB).app o1 b1 s1
          · intro z hz1
            have hlt1 : z < H1.next := by
              rcases l1 z hz1 with e | e
              · have := hz z e; omega
              · exact e
            rcases s1 with e | e
            · rw [e] at hz1; have := hz z hz1; omega
            · rw [e] at hz1; simp at hz1; omega
      · obtain rfl : i = l'.length := by omega
        rw [List.take_of_length_le (by simp [cut100])] at hF
        refine walk (both g1 (both g2 (both g3 (both g4 (both hp (both hr hlt)))))) ?_
        have hcl : (cut100 l').length = l'.length := by simp [cut100]
        rw [hcl]
        refine ⟨_, rfl, (hF.set _ (by omega) (by omega) ?_).set _ (by omega) (by simp; omega) ?_⟩
        · intro e; have := (hz _ e).1; omega
        · intro e; have := (hz _ e).1; omega
end Go.Abs

/- Chapter 03: Plain, walked. -/
namespace Go.Abs
open Go.Proofs
set_option maxRecDepth 100000
set_option linter.unusedVariables false
set_option linter.unusedSimpArgs false

def notHere (s : Txt) : Bool := !(s == [46])
def plainL (l : List Txt) : List Txt := l.filter notHere
def lastHere (l : List Txt) : Bool := l.getLast? == some [46]
def plainD (d : Bool) (l : List Txt) : Bool := (d || lastHere l) && decide (0 < (plainL l).length)
theorem last_get {l : List Txt} (h : l ≠ []) : ∃ x, l[l.length - 1]? = some x ∧ lastHere l = (x == [46]) := by
  have h1 := List.length_pos_iff.2 h
  obtain ⟨x, hx⟩ := get_lt' (l := l) (i := l.length - 1) (by omega)
  refine ⟨x, hx, ?_⟩
  unfold lastHere
  rw [List.getLast?_eq_getElem?, hx]
  cases h : (x == [46]) <;> simp_all
theorem plain_ok {H : Heap} {a d : Bool} {v : AV} {l : List Txt} (h : Ss H v l) (hL : l.length ≤ 100000) : Cl Try.prog pr03 12 [.agg [.bool a, .bool d, v]] H fun r H' => ∃ w, r = .agg [.bool a, .bool (plainD d l), w] ∧ Ss H' w (plainL l) ∧ Keep H H' := by
  obtain ⟨va, cap, ex, rfl, hc, hex⟩ := h.form
  obtain ⟨L, hLL⟩ : ∃ L, l.length = L := ⟨_, rfl⟩
  rw [hLL] at h ⊢
  refine Cl.enter Try.func12 rfl rfl Try.ntmps12 (by simp) ?_
  refine walk none0 ?_
  cases d with
  | true =>
    have hD : plainD true l = decide (0 < (plainL l).length) := by simp [plainD]
    refine walk none0 ?_
    have kB : Keep H ((H.push (.cells [.bool a, .bool true, .slice va L cap ex] 28 true false)).push (.cells [.bool false, .bool false, .slice none 0 0 none] 28 true false)) := (Upd.rfl.push _).push _
    refine (clone_ok (h.kept kB) hL).mono fun w1 H1 hn1 f1 => ?_
    simp at hn1
    obtain ⟨wa, wc, wx, rfl, hwc, hwx⟩ := f1.own.form
    refine walk none0 ?_
    refine (delFunc_ok here_ok f1.own hL).mono fun w2 H2 hn2 ⟨s2, u2, e2⟩ => ?_
    obtain ⟨a2, c2, x2, rfl, _⟩ := s2.form
    have hnew : ∀ z, slBlock (AV.slice wa l.length wc wx) = some z → H.next + 2 ≤ z := fun z hz => by have := f1.new z hz; simp at this; omega
    have gp : H2.get H.next = some (.cells [.bool a, .bool true, .slice va L cap ex] 28 true false) := by
      rw [u2.keep _ (by omega) (fun e => by have := hnew _ e; omega), f1.keep.get (by simp <;> omega)]
      simp (disch := omega) [ineg]
    have gr : H2.get (H.next + 1) = some (.cells [.bool false, .bool false, .slice none 0 0 none] 28 true false) := by
      rw [u2.keep _ (by omega) (fun e => by have := hnew _ e; omega), f1.keep.get (by simp <;> omega)]
      simp (disch := omega) [ineg]
    have kk : Keep H H2 := (kB.then f1.keep).trans u2 fun z hz e => by have := hnew _ e; omega
    have hb2 : ∀ z, slBlock (AV.slice a2 (plainL l).length c2 x2) = some z → H.next + 2 ≤ z := fun z hz => by
      have e2' : slBlock (AV.slice a2 (plainL l).length c2 x2) = slBlock (AV.slice wa l.length wc wx) := e2
      rw [e2'] at hz; exact hnew z hz
    have s2' : Ss H2 (AV.slice a2 (plainL l).length c2 x2) (plainL l) := s2
    have hpl : (l.filter fun s => !(s == [46])) = plainL l := rfl
    simp only [hpl]
    refine walk (both gp gr) ?_
    refine ⟨_, by rw [hD], Sl.set s2' _ (fun e => by have := hb2 _ e; omega), kk.set _ (by omega) (fun h => by omega)⟩
  | false =>
    by_cases h0 : l = []
    · have hD : plainD false l = false := by subst h0; decide
      have hn : ¬ (0 < L) := by rw [← hLL, h0]; simp
      refine walk hn ?_
      have kB : Keep H ((H.push (.cells [.bool a, .bool false, .slice va L cap ex] 28 true false)).push (.cells [.bool false, .bool false, .slice none 0 0 none] 28 true false)) := (Upd.rfl.push _).push _
      refine (clone_ok (h.kept kB) hL).mono fun w1 H1 hn1 f1 => ?_
      simp at hn1
      obtain ⟨wa, wc, wx, rfl, hwc, hwx⟩ := f1.own.form
      refine walk none0 ?_
      refine (delFunc_ok here_ok f1.own hL).mono fun w2 H2 hn2 ⟨s2, u2, e2⟩ => ?_
      obtain ⟨a2, c2, x2, rfl, _⟩ := s2.form
      have hnew : ∀ z, slBlock (AV.slice wa l.length wc wx) = some z → H.next + 2 ≤ z := fun z hz => by have := f1.new z hz; simp at this; omega
      have gp : H2.get H.next = some (.cells [.bool a, .bool false, .slice va L cap ex] 28 true false) := by
        rw [u2.keep _ (by omega) (fun e => by have := hnew _ e; omega), f1.keep.get (by simp <;> omega)]
        simp (disch := omega) [ineg]
      have gr : H2.get (H.next + 1) = some (.cells [.bool false, .bool false, .slice none 0 0 none] 28 true false) := by
        rw [u2.keep _ (by omega) (fun e => by have := hnew _ e; omega), f1.keep.get (by simp <;> omega)]
        simp (disch := omega) [ineg]
      have kk : Keep H H2 := (kB.then f1.keep).trans u2 fun z hz e => by have := hnew _ e; omega
      have hb2 : ∀ z, slBlock (AV.slice a2 (plainL l).length c2 x2) = some z → H.next + 2 ≤ z := fun z hz => by
        have e2' : slBlock (AV.slice a2 (plainL l).length c2 x2) = slBlock (AV.slice wa l.length wc wx) := e2
        rw [e2'] at hz; exact hnew z hz
      have s2' : Ss H2 (AV.slice a2 (plainL l).length c2 x2) (plainL l) := s2
      have hpl : (l.filter fun s => !(s == [46])) = plainL l := rfl
      simp only [hpl]
      refine walk (both gp gr) ?_
      refine ⟨_, by rw [hD], Sl.set s2' _ (fun e => by have := hb2 _ e; omega), kk.set _ (by omega) (fun h => by omega)⟩
    · obtain ⟨x, hx, hlh⟩ := last_get h0
      have hlp := List.length_pos_iff.2 h0
      rw [hLL] at hx hlp
      obtain ⟨b, o, c, t, w, mk, rfl, _, hb1, hb2', hb3, hb4⟩ := str_at h hx
      have e0 : ((L : Int) - 1) = ((L - 1 : Nat) : Int) := by omega
      have e3 : L - 1 < L := by omega
      generalize hva : (some (b, o) : Option (Nat × Nat)) = va at *
      generalize L - 1 = M at *
      by_cases hxx : x = [46]
      · have hD : plainD false l = decide (0 < (plainL l).length) := by simp [plainD, hlh, hxx]
        subst hva
        subst hxx
        refine walk (both hlp (both e0 (both e3 (both hb2' (both hb3 hb4))))) ?_
        generalize hva : (some (b, o) : Option (Nat × Nat)) = va at *
        have kB : Keep H ((H.push (.cells [.bool a, .bool false, .slice va L cap ex] 28 true false)).push (.cells [.bool false, .bool false, .slice none 0 0 none] 28 true false)) := (Upd.rfl.push _).push _
        refine (clone_ok (h.kept kB) hL).mono fun w1 H1 hn1 f1 => ?_
        simp at hn1
        obtain ⟨wa, wc, wx, rfl, hwc, hwx⟩ := f1.own.form
        refine walk none0 ?_
        refine (delFunc_ok here_ok f1.own hL).mono fun w2 H2 hn2 ⟨s2, u2, e2⟩ => ?_
        obtain ⟨a2, c2, x2, rfl, _⟩ := s2.form
        have hnew : ∀ z, slBlock (AV.slice wa l.length wc wx) = some z → H.next + 2 ≤ z := fun z hz => by have := f1.new z hz; simp at this; omega
        have gp : H2.get H.next = some (.cells [.bool a, .bool false, .slice va L cap ex] 28 true false) := by
          rw [u2.keep _ (by omega) (fun e => by have := hnew _ e; omega), f1.keep.get (by simp <;> omega)]
          simp (disch := omega) [ineg]
        have gr : H2.get (H.next + 1) = some (.cells [.bool false, .bool false, .slice none 0 0 none] 28 true false) := by
          rw [u2.keep _ (by omega) (fun e => by have := hnew _ e; omega), f1.keep.get (by simp <;> omega)]
          simp (disch := omega) [ineg]
        have kk : Keep H H2 := (kB.then f1.keep).trans u2 fun z hz e => by have := hnew _ e; omega
        have hb2 : ∀ z, slBlock (AV.slice a2 (plainL l).length c2 x2) = some z → H.next + 2 ≤ z := fun z hz => by
          have e2' : slBlock (AV.slice a2 (plainL l).length c2 x2) = slBlock (AV.slice wa l.length wc wx) := e2
          rw [e2'] at hz; exact hnew z hz
        have s2' : Ss H2 (AV.slice a2 (plainL l).length c2 x2) (plainL l) := s2
        have hpl : (l.filter fun s => !(s == [46])) = plainL l := rfl
        simp only [hpl]
        refine walk (both gp gr) ?_
        refine ⟨_, by rw [hD], Sl.set s2' _ (fun e => by have := hb2 _ e; omega), kk.set _ (by omega) (fun h => by omega)⟩
      · have hD : plainD false l = false := by simp [plainD, hlh, hxx]
        subst hva
        have hxb : (x == [46]) = false := by simpa using hxx
        refine walk (both hlp (both e0 (both e3 (both hb2' (both hb3 (both hb4 (both hxx hxb))))))) ?_
        generalize hva : (some (b, o) : Option (Nat × Nat)) = va at *
        have kB : Keep H ((H.push (.cells [.bool a, .bool false, .slice va L cap ex] 28 true false)).push (.cells [.bool false, .bool false, .slice none 0 0 none] 28 true false)) := (Upd.rfl.push _).push _
        refine (clone_ok (h.kept kB) hL).mono fun w1 H1 hn1 f1 => ?_
        simp at hn1
        obtain ⟨wa, wc, wx, rfl, hwc, hwx⟩ := f1.own.form
        refine walk none0 ?_
        refine (delFunc_ok here_ok f1.own hL).mono fun w2 H2 hn2 ⟨s2, u2, e2⟩ => ?_
        obtain ⟨a2, c2, x2, rfl, _⟩ := s2.form
        have hnew : ∀ z, slBlock (AV.slice wa l.length wc wx) = some z → H.next + 2 ≤ z := fun z hz => by have := f1.new z hz; simp at this; omega
        have gp : H2.get H.next = some (.cells [.bool a, .bool false, .slice va L cap ex] 28 true false) := by
          rw [u2.keep _ (by omega) (fun e => by have := hnew _ e; omega), f1.keep.get (by simp <;> omega)]
          simp (disch := omega) [ineg]
        have gr : H2.get (H.next + 1) = some (.cells [.bool false, .bool false, .slice none 0 0 none] 28 true false) := by
          rw [u2.keep _ (by omega) (fun e => by have := hnew _ e; omega), f1.keep.get (by simp <;> omega)]
          simp (disch := omega) [ineg]
        have kk : Keep H H2 := (kB.then f1.keep).trans u2 fun z hz e => by have := hnew _ e; omega
        have hb2 : ∀ z, slBlock (AV.slice a2 (plainL l).length c2 x2) = some z → H.next + 2 ≤ z := fun z hz => by
          have e2' : slBlock (AV.slice a2 (plainL l).length c2 x2) = slBlock (AV.slice wa l.length wc wx) := e2
          rw [e2'] at hz; exact hnew z hz
        have s2' : Ss H2 (AV.slice a2 (plainL l).length c2 x2) (plainL l) := s2
        have hpl : (l.filter fun s => !(s == [46])) = plainL l := rfl
        simp only [hpl]
        refine walk (both gp gr) ?_
        refine ⟨_, by rw [hD], Sl.set s2' _ (fun e => by have := hb2 _ e; omega), kk.set _ (by omega) (fun h => by omega)⟩
end Go.Abs

/- Chapter 03: the reference's Plain, walked. -/
namespace Go.Abs
open Go.Proofs
set_option maxRecDepth 100000
set_option linter.unusedVariables false
set_option linter.unusedSimpArgs false

def dirAt (d : Bool) (l : List Txt) (i : Nat) : Bool := if i = l.length ∧ l ≠ [] then d || lastHere l else d
theorem filter_step {q : Txt → Bool} {l : List Txt} {i : Nat} {x : Txt} (hx : l[i]? = some x) : (l.take (i + 1)).filter q = (l.take i).filter q ++ (if q x then [x] else []) := filter_take_add hx
theorem dirAt_lt {d : Bool} {l : List Txt} {i : Nat} (h : i < l.length) : dirAt d l i = d := by unfold dirAt; rw [if_neg (fun e => by omega)]
theorem lastHere_at {l : List Txt} {i : Nat} {x : Txt} (hx : l[i]? = some x) (hi : i + 1 = l.length) : lastHere l = (x == [46]) := by
  have h0 : l ≠ [] := by rintro rfl; simp at hi
  obtain ⟨y, hy, e⟩ := last_get h0
  rw [show l.length - 1 = i by omega, hx] at hy
  cases hy; exact e
theorem dirAt_step {d : Bool} {l : List Txt} {i : Nat} {x : Txt} (hx : l[i]? = some x) : dirAt d l (i + 1) = (if i + 1 = l.length ∧ x = [46] then true else d) := by
  have hlt := (List.getElem?_eq_some_iff.1 hx).1
  by_cases h : i + 1 = l.length
  · have h0 : l ≠ [] := by rintro rfl; simp at h
    unfold dirAt
    rw [if_pos ⟨h, h0⟩, lastHere_at hx h]
    by_cases hxx : x = [46]
    · subst hxx; simp [h]
    · have : (x == [46]) = false := by simpa using hxx
      simp [this, hxx]
  · rw [if_neg (fun e => h e.1), dirAt_lt (by omega)]
theorem dirAt_end (d : Bool) (l : List Txt) : plainD d l = (dirAt d l l.length && decide (0 < (plainL l).length)) := by
  unfold plainD dirAt
  by_cases h : l = []
  · subst h; simp [plainL]
  · rw [if_pos ⟨rfl, h⟩]
theorem plainL_step {l : List Txt} {i : Nat} {x : Txt} (hx : l[i]? = some x) : plainL (l.take (i + 1)) = plainL (l.take i) ++ (if x = [46] then [] else [x]) := by
  unfold plainL
  rw [filter_step hx]
  by_cases h : x = [46]
  · subst h; simp [notHere]
  · have : (x == [46]) = false := by simpa using h
    simp [notHere, this, h]
theorem refPlain_ok {H : Heap} {a d : Bool} {v : AV} {l : List Txt} (h : Ss H v l) (hL : l.length ≤ 100000) : Cl Try.prog pr03 15 [.agg [.bool a, .bool d, v]] H fun r H' => ∃ w, r = .agg [.bool a, .bool (plainD d l), w] ∧ Ss H' w (plainL l) ∧ Keep H H' := by
  obtain ⟨va, cap, ex, rfl, hc, hex⟩ := h.form
  refine Cl.enter Try.func15 rfl rfl Try.ntmps15 (by simp) ?_
  refine walk none0 ?_
  refine Wq.regionM [(0, 0), (1, 0), (2, 0), (5, 0), (6, 0), (3, 0), (4, 2), (7, 0)] (by kernel_rfl) ?_
  refine mwalk none0 ?_
  refine walk none0 ?_
  refine Wq.loop (fun k e H' => ∃ (i : Nat) (w : AV), i ≤ l.length ∧ k = l.length - i ∧ e 1 = .ptr (some (H.next, 0)) ∧ e 2 = .ptr (some (H.next + 1, 0)) ∧ e 3 = .ptr (some (H.next + 2, 0)) ∧ e 4 = .bool (dirAt d l i) ∧ e 5 = .int .i64 i ∧
    H'.get H.next = some (.cells [.bool a, .bool d, .slice va l.length cap ex] 28 true false) ∧ H'.get (H.next + 1) = some (.cells [.bool false, .bool false, .slice none 0 0 none] 28 true false) ∧ H'.get (H.next + 2) = some (.cells [.bool a, .bool false, w] 28 true false) ∧ FreshG H H' 9 1 w (plainL (l.take i)).length (strs (plainL (l.take i))) ∧ (∀ z, slBlock w = some z → H.next + 3 ≤ z ∧ z < H'.next) ∧ H.next + 3 ≤ H'.next) l.length ?_ ?_
  · refine ⟨0, .slice none 0 0 none, by omega, by omega, by simp, by simp, by simp, ?_, by simp, ?_, ?_, ?_, ?_, ?_⟩
    · simp [dirAt]; intro h1 h2; exact absurd (List.eq_nil_of_length_eq_zero h1.symm) h2
    · simp (disch := omega) [ineg]
    · simp (disch := omega) [ineg]
    · simp (disch := omega) [ineg]
    · exact FreshG.nil (((((Upd.rfl.push _).push _).push _).set _ (by simp) (fun h => by omega)))
    · simp [slBlock]
  · rintro k e H' ⟨i, w, hi, rfl, g1, g2, g3, g4, g5, hp, hr, hq, hF, hz, hn⟩
    obtain ⟨wa, wc, wx, rfl, hwc, hwx⟩ := hF.own.form
    by_cases hlt : i < l.length
    · obtain ⟨x, hx⟩ := get_lt' hlt
      obtain ⟨b, o, c, t, w, mk, rfl, _, hb1, hb2, hb3, hb4⟩ := str_at h hx
      have hb2' := (hF.keep.get hb1).trans hb2
      by_cases hxx : x = [46]
      · subst hxx
        have hd0 := dirAt_lt (d := d) hlt
        have hds := dirAt_step (d := d) hx
        have hps := plainL_step hx
        rw [if_pos rfl, List.append_nil] at hps
        by_cases hle : i + 1 = l.length
        · have hl0 : (i : Int) = (l.length : Int) - 1 := by omega
          have hl1 : ((i : Int) = (l.length : Int) - 1) = True := eq_true hl0
          rw [if_pos ⟨hle, rfl⟩] at hds
          refine walk (both g1 (both g2 (both g3 (both g4 (both g5 (both hp (both hr (both hq (both hlt (both hb2' (both hb3 (both hb4 hl1)))))))))))) ?_
          refine Roundq.normal (l.length - (i + 1)) (by omega) ⟨i + 1, .slice wa (plainL (l.take i)).length wc wx, by omega, rfl, by simp [g1], by simp [g2], by simp [g3], by simp [hds], by simp, hp, hr, hq, by rw [hps]; exact hF, hz, hn⟩
        · have hl1 : ¬ (i : Int) = (l.length : Int) - 1 := by omega
          rw [if_neg (fun e => hle e.1)] at hds
          refine walk (both g1 (both g2 (both g3 (both g4 (both g5 (both hp (both hr (both hq (both hlt (both hb2' (both hb3 (both hb4 hl1)))))))))))) ?_
          refine Roundq.normal (l.length - (i + 1)) (by omega) ⟨i + 1, .slice wa (plainL (l.take i)).length wc wx, by omega, rfl, by simp [g1], by simp [g2], by simp [g3], by simp [g4, hds, hd0], by simp, hp, hr, hq, by rw [hps]; exact hF, hz, hn⟩
      · have hxb : (x == [46]) = false := by simpa using hxx
        refine walk (both g1 (both g2 (both g3 (both g4 (both g5 (both hp (both hr (both hq (both hlt (both hb2' (both hb3 (both hb4 (both hxx hxb))))))))))))) ?_
        refine Wq.regionD [0, 1, 2, 3, 4, 5, 6, 7, 8, 9, 10] (by kernel_rfl) ?_
        refine walk (both g1 (both g2 (both g3 (both g4 (both g5 (both hp (both hr (both hq (both hlt (both hb2' (both hb3 hb4))))))))))) ?_
        have hd0 := dirAt_lt (d := d) hlt
        have hds := dirAt_step (d := d) hx
        rw [if_neg (fun e => hxx e.2)] at hds
        have hps := plainL_step hx
        rw [if_neg hxx] at hps
        have hpl : (plainL (l.take i)).length ≤ i := by unfold plainL; exact Nat.le_trans (List.length_filter_le _ _) (by simp; omega)
        have kB : Keep H' (H'.push (.cells [.str x] 9 true false)) := Upd.rfl.push _
        refine Oq.appendL (own := (hF.own.kept kB)) (new := [.str x]) (m := 1) (by simp (disch := omega) [g3, -getElem?_pos, wrapI64, tdivN, tmodN, ipos, ineg, dpos, dneg, slc_l, slc_h, slc_lh, slc_hm, slc_lhm, slc_0, slcR_some, slcR_none, cutS_ok, cutA_ok, byteAt_ok]; first | done | (repeat' (first | rfl | apply And.intro))) ⟨_, rfl, by simp; first | done | (repeat' (first | rfl | apply And.intro))⟩ rfl (by kernel_rfl) (by kernel_rfl) (by refine ⟨by simp, ?_⟩; simp (disch := omega) [srcCells, cellsAt, g3, -getElem?_pos, wrapI64, tdivN, tmodN, ipos, ineg, dpos, dneg, slc_l, slc_h, slc_lh, slc_hm, slc_lhm, slc_0, slcR_some, slcR_none, cutS_ok, cutA_ok, byteAt_ok]; first | done | rfl) (by simp [g3]) (by simp [g3]) (by omega) (by omega) fun w1 H1 o1 b1 s1 l1 => ?_
        have hk1 : ∀ z, z < H.next + 3 → H1.get z = H'.get z := by
          intro z hz'
          rw [b1.2.2 z (by simp; omega) (fun e => by have := (hz z e.symm).1; omega), Heap.get_push, if_neg (by omega)]
        have hn1 : H'.next + 1 ≤ H1.next := by have := b1.1; simpa using this
        have hp1 := (hk1 H.next (by omega)).trans hp
        have hr1 := (hk1 (H.next + 1) (by omega)).trans hr
        have hq1 := (hk1 (H.next + 2) (by omega)).trans hq
        have hz1 : ∀ z, slBlock w1 = some z → H.next + 3 ≤ z ∧ z < H1.next := by
          intro z hz1
          have hlt1 : z < H1.next := by
            rcases l1 z hz1 with e | e
            · have := hz z e; omega
            · exact e
          rcases s1 with e | e
          · rw [e] at hz1; have := hz z hz1; omega
          · rw [e] at hz1; simp at hz1; omega
        have f1 := (hF.then kB).app o1 b1 s1
        obtain ⟨wa1, wc1, wx1, rfl, _⟩ := o1.form
        refine walk (both g1 (both g2 (both g3 (both g4 (both g5 hq1))))) ?_
        refine Roundq.normal (l.length - (i + 1)) (by omega) ⟨i + 1, .slice wa1 ((plainL (l.take i)).length + 1) wc1 wx1, by omega, rfl, by simp [g1], by simp [g2], by simp [g3], by simp [g4, hds, hd0], by simp, ?_, ?_, Heap.get_set_same _ _ _, ?_, ?_, by simp; omega⟩
        · simp (disch := omega) [ineg, hp1]
        · simp (disch := omega) [ineg, hr1]
        · rw [hps, List.length_append, ← strs_app]
          exact f1.set _ (by omega) (by omega) (fun e => by have := (hz1 _ e).1; omega)
        · intro z hz'; have := hz1 z hz'; simp; omega
    · have hil : i = l.length := by omega
      have hti : l.take i = l := List.take_of_length_le (by omega)
      rw [hti] at hF hq hz
      rw [hil] at g4
      rw [dirAt_end]
      by_cases hD : dirAt d l l.length = true
      · rw [hD] at g4 ⊢
        refine walk (both g1 (both g2 (both g3 (both g4 (both g5 (both hp (both hr (both hq hlt)))))))) ?_
        refine ⟨_, rfl, Sl.set (Sl.set hF.own.sl _ (fun e => by have := (hz _ e).1; omega)) _ (fun e => by have := (hz _ e).1; omega), (hF.keep.set _ (by omega) (fun h => by omega)).set _ (by simp; omega) (fun h => by omega)⟩
      · rw [Bool.not_eq_true] at hD
        rw [hD] at g4 ⊢
        refine walk (both g1 (both g2 (both g3 (both g4 (both g5 (both hp (both hr (both hq hlt)))))))) ?_
        refine ⟨_, rfl, Sl.set (Sl.set hF.own.sl _ (fun e => by have := (hz _ e).1; omega)) _ (fun e => by have := (hz _ e).1; omega), (hF.keep.set _ (by omega) (fun h => by omega)).set _ (by simp; omega) (fun h => by omega)⟩
end Go.Abs

/- Chapter 03: PathPlain, walked. -/
namespace Go.Abs
open Go.Proofs
set_option maxRecDepth 100000
set_option linter.unusedVariables false
set_option linter.unusedSimpArgs false

theorem plainL_len (l : List Txt) : (plainL l).length ≤ l.length := List.length_filter_le _ _
theorem plainL_twice (l : List Txt) : plainL (plainL l) = plainL l := by unfold plainL; rw [List.filter_filter]; congr 1; funext x; simp
theorem plainD_twice (d : Bool) (l : List Txt) : plainD (plainD d l) (plainL l) = plainD d l := by
  have h : lastHere (plainL l) = false := by
    by_cases h0 : plainL l = []
    · rw [h0]; rfl
    · obtain ⟨x, hx, e⟩ := last_get h0
      have hm := List.mem_of_getElem? hx
      unfold plainL at hm
      have := (List.mem_filter.1 hm).2
      rw [e]
      simpa [notHere] using this
  unfold plainD
  rw [h, plainL_twice]
  simp
theorem pathPlain_main {H : Heap} {a d : Bool} {v : AV} {l : List Txt} (h : Ss H v l) : Cl Try.prog pr03 4 [.agg [.bool a, .bool d, v]] H fun r _ => r = .bool true := by
  have hv := h.form
  obtain ⟨va, cap, ex, rfl, hc, hex⟩ := hv
  refine Cl.enter Try.func4 rfl rfl Try.ntmps4 (by simp) ?_
  refine walk none0 ?_
  refine (short_ok (h.kept (Upd.rfl.push _))).mono fun r H1 hn1 ⟨w, e1, f1⟩ => ?_
  subst e1
  have hL := shortL_len l
  generalize shortL l = s at *
  obtain ⟨wa, wc, wx, rfl, _⟩ := f1.own.form
  simp at hn1
  have gp : H1.get H.next = some (.cells [.bool a, .bool d, .slice va l.length cap ex] 28 true false) := by
    rw [f1.keep.get (by simp)]; simp (disch := omega) [ineg]
  refine walk gp ?_
  have s2 : Ss (H1.set H.next (.cells [.bool a, .bool d, .slice wa s.length wc wx] 28 true false)) (.slice wa s.length wc wx) s := Sl.set f1.own.sl _ (fun e => by have := f1.new _ e; simp at this; omega)
  have g2 : (H1.set H.next (.cells [.bool a, .bool d, .slice wa s.length wc wx] 28 true false)).get H.next = some (.cells [.bool a, .bool d, .slice wa s.length wc wx] 28 true false) := Heap.get_set_same _ _ _
  have n2 : H.next < (H1.set H.next (.cells [.bool a, .bool d, .slice wa s.length wc wx] 28 true false)).next := by simp; omega
  generalize H1.set H.next (.cells [.bool a, .bool d, .slice wa s.length wc wx] 28 true false) = H2 at *
  generalize H.next = p at *
  refine (own_ok s2 (by omega)).mono fun r H3 hn3 ⟨w3, e3, f3⟩ => ?_
  subst e3
  refine walk none0 ?_
  refine (plain_ok f3.own.sl (by omega)).mono fun r H4 hn4 ⟨w4, e4, s4, k4⟩ => ?_
  subst e4
  obtain ⟨wb, xc, xx, rfl, _⟩ := Ss.form s4
  have kk : Keep H2 ((H4.push (.cells [.bool false, .bool false, .slice none 0 0 none] 28 true false)).set H4.next (.cells [.bool a, .bool (plainD d s), .slice wb (plainL s).length xc xx] 28 true false)) := ((f3.keep.then k4).push _).set _ (by simp) (fun h => by omega)
  refine walk none0 ?_
  have s5 : Ss ((H4.push (.cells [.bool false, .bool false, .slice none 0 0 none] 28 true false)).set H4.next (.cells [.bool a, .bool (plainD d s), .slice wb (plainL s).length xc xx] 28 true false)) (.slice wb (plainL s).length xc xx) (plainL s) := s4.kept ((Upd.rfl.push _).set _ (by simp) (fun h => by omega))
  have g5 : ((H4.push (.cells [.bool false, .bool false, .slice none 0 0 none] 28 true false)).set H4.next (.cells [.bool a, .bool (plainD d s), .slice wb (plainL s).length xc xx] 28 true false)).get H4.next = some (.cells [.bool a, .bool (plainD d s), .slice wb (plainL s).length xc xx] 28 true false) := Heap.get_set_same _ _ _
  have n5 : H4.next < ((H4.push (.cells [.bool false, .bool false, .slice none 0 0 none] 28 true false)).set H4.next (.cells [.bool a, .bool (plainD d s), .slice wb (plainL s).length xc xx] 28 true false)).next := by simp
  generalize (H4.push (.cells [.bool false, .bool false, .slice none 0 0 none] 28 true false)).set H4.next (.cells [.bool a, .bool (plainD d s), .slice wb (plainL s).length xc xx] 28 true false) = H5 at *
  generalize H4.next = q at *
  have s6 := s2.kept kk
  have g6 := (kk.get n2).trans g2
  have n6 : p < H5.next := by have := kk.next; omega
  clear s2 g2 n2 f3 s4 k4 kk f1
  refine Wq.regionM [(1, 0), (2, 0), (0, 2), (3, 0), (4, 0), (5, 0), (6, 0), (7, 0), (8, 3), (9, 0), (10, 0), (11, 0), (12, 0), (13, 0), (14, 0)] (by kernel_rfl) ?_
  refine mwalk (both g5 g6) ?_
  refine (refPlain_ok s6 (by omega)).mono fun r H7 hn7 ⟨w7, e7, s7, k7⟩ => ?_
  subst e7
  obtain ⟨wd, yc, yx, rfl, _⟩ := Ss.form s7
  have g7 := (k7.get n5).trans g5
  have g7p := (k7.get n6).trans g6
  refine mwalk (both g5 (both g6 (both g7 g7p))) ?_
  have hpl := plainL_len s
  refine (same_ok (s5.kept k7) s7 (by omega)).mono fun r H8 hn8 ⟨e8, k8⟩ => ?_
  subst e8
  have g8 := (k8.get (by omega)).trans g7
  have g8p := (k8.get (by omega)).trans g7p
  refine mwalk (both g5 (both g6 (both g7 (both g7p (both g8 g8p))))) ?_
  have s8 := (s5.kept k7).kept k8
  refine (own_ok s8 (by omega)).mono fun r H9 hn9 ⟨w9, e9, f9⟩ => ?_
  subst e9
  have g9 := (f9.keep.get (by omega)).trans g8
  refine mwalk (both g5 (both g6 (both g7 (both g7p (both g8 (both g8p g9)))))) ?_
  refine (plain_ok f9.own.sl (by omega)).mono fun r Ha hna ⟨wa', ea, sa, ka⟩ => ?_
  subst ea
  have ga := (ka.get (by omega)).trans g9
  refine mwalk (both g5 (both g6 (both g7 (both g7p (both g8 (both g8p (both g9 ga))))))) ?_
  have sb := (s8.kept f9.keep).kept ka
  rw [plainL_twice, plainD_twice] at *
  refine (same_ok sa sb (by omega)).mono fun r Hb hnb ⟨eb, kb⟩ => ?_
  subst eb
  refine mwalk none0 ?_
  refine (lives_ok _).mono fun r Hc hnc ⟨ec, ec'⟩ => ?_
  subst ec
  refine mwalk none0 ?_
  refine walk none0 ?_
  rfl
end Go.Abs

/- Chapter 03: Concat, Join, walked. -/
namespace Go.Abs
open Go.Proofs
set_option maxRecDepth 100000
set_option linter.unusedVariables false
set_option linter.unusedSimpArgs false

theorem grow_ok (n : Int) (H : Heap) (h0 : 0 ≤ n) (hn : n ≤ 2 ^ 30) :
    Cl Try.prog pr03 39 [.slice none 0 0 none, .int .i64 n] H fun w H' => FreshG H H' 9 1 w 0 [] := by
  refine Cl.enter Try.func39 rfl rfl Try.ntmps39 (by simp) ?_
  by_cases h : 0 < n
  · refine walk none0 ?_
    refine Oq.o1 (opR_appendN (t0 := 26) (u := 9) (bytes := 16) (s := 1) (z := [.str []]) (k := .i64) (l := n) (by simp) rfl (by kernel_rfl) (by kernel_rfl) h (by omega) (by omega)) ?_
    refine walk none0 ?_
    refine ⟨.inr ⟨H.next, 0, zeros [.str []] n.toNat, n.toNat, some 1, ?_, by omega, .inr rfl, by simp, by simp, ?_, by simp⟩, Upd.rfl.push _, by simp [slBlock]⟩
    · simp; omega
    · have := zeros_len [AV.str []] n.toNat; simp at this ⊢; omega
  · obtain rfl : n = 0 := by omega
    refine walk none0 ?_
    exact FreshG.nil Upd.rfl

/-- Two slices of texts, one behind the other. -/
theorem concat2 (v w1 w2 : AV) (n1 n2 : Nat) (c1 c2 : List AV) (H : Heap) (h : Sl H 1 v 2 [w1, w2]) (h1 : Sl H 1 w1 n1 c1) (h2 : Sl H 1 w2 n2 c2) (ho1 : c1.all AV.one = true) (ho2 : c2.all AV.one = true) (hn1 : n1 ≤ 2 ^ 20) (hn2 : n2 ≤ 2 ^ 20) :
    Cl Try.prog pr03 30 [v] H fun w H' => FreshG H H' 9 1 w (n1 + n2) (c1 ++ c2) := by
  obtain ⟨a, cap, ex, rfl, hc, _⟩ := h.form
  have hl1 := h1.len
  have hl2 := h2.len
  obtain ⟨b, o, c, t, wr, mk, rfl, hb1, hb2, hb3, hb4⟩ := h.at (by omega)
  have x0 : c[o]? = some w1 := by have := sub_get (i := 0) hb4 (by omega); simpa using this
  have x1 : c[o + 1]? = some w2 := by have := sub_get (i := 1) hb4 (by omega); simpa using this
  obtain ⟨a1, cap1, ex1, rfl, hc1, _⟩ := h1.form
  obtain ⟨a2, cap2, ex2, rfl, hc2, _⟩ := h2.form
  refine Cl.wf fun hw => ?_
  refine Cl.enter Try.func30 rfl rfl Try.ntmps30 (by simp) ?_
  refine walk none0 ?_
  refine Wq.loop (fun m e H' => H' = H ∧ e 0 = .slice (some (b, o)) 2 cap ex ∧ e 9 = .slice (some (b, o)) 2 cap ex ∧ e 10 = .int .i64 2 ∧ ((m = 2 ∧ e 11 = .int .i64 0 ∧ e 3 = .int .i64 0) ∨ (m = 1 ∧ e 11 = .int .i64 1 ∧ e 3 = .int .i64 n1) ∨ (m = 0 ∧ e 11 = .int .i64 2 ∧ e 3 = .int .i64 (n1 + n2 : Nat)))) 2 ?_ ?_
  · exact ⟨rfl, by simp, by simp, by simp, .inl ⟨rfl, by simp, by simp⟩⟩
  · rintro m e H' ⟨rfl, g0, g9, g10, (⟨rfl, g11, g3⟩ | ⟨rfl, g11, g3⟩ | ⟨rfl, g11, g3⟩)⟩
    · refine walk (both g0 (both g9 (both g10 (both g11 (both g3 (both hb2 x0)))))) ?_
      exact Roundq.normal 1 (by omega) ⟨rfl, by simp [g0], by simp [g9], by simp [g10], .inr (.inl ⟨rfl, by simp, by simp⟩)⟩
    · refine walk (both g0 (both g9 (both g10 (both g11 (both g3 (both hb2 x1)))))) ?_
      refine Roundq.normal 0 (by omega) ⟨rfl, by simp [g0], by simp [g9], by simp [g10], .inr (.inr ⟨rfl, by simp, by simp⟩)⟩
    · refine walk (both g0 (both g9 (both g10 (both g11 g3)))) ?_
      refine Cl.wfK ((grow_ok (n1 + n2 : Nat) H' (by omega) (by omega)).mono fun w H1 hn1 hf hw1 => ?_)
      refine walk (both g0 (both g9 (both g10 (both g11 g3)))) ?_
      have hb2' := (hf.keep.get hb1).trans hb2
      refine Wq.loop (fun m e H2 => e 25 = .slice (some (b, o)) 2 cap ex ∧ e 26 = .int .i64 2 ∧ ((m = 2 ∧ e 27 = .int .i64 0 ∧ FreshG H' H2 9 1 (e 6) 0 []) ∨ (m = 1 ∧ e 27 = .int .i64 1 ∧ FreshG H' H2 9 1 (e 6) n1 c1) ∨ (m = 0 ∧ e 27 = .int .i64 2 ∧ FreshG H' H2 9 1 (e 6) (n1 + n2) (c1 ++ c2)))) 2 ?_ ?_
      · exact ⟨by simp [g0], by simp, .inl ⟨rfl, by simp, by simpa using hf⟩⟩
      · rintro m e2 H2 ⟨k25, k26, (⟨rfl, k27, kf⟩ | ⟨rfl, k27, kf⟩ | ⟨rfl, k27, kf⟩)⟩
        · have hb3' := (kf.keep.get hb1).trans hb2
          refine walk (both k25 (both k26 (both k27 (both hb3' x0)))) ?_
          refine Oq.appendG (own := kf.own) (new := c1) (m := n1) (by simp (disch := omega) [hb3', x0, -getElem?_pos, wrapI64, tdivN, tmodN, ipos, ineg, dpos, dneg, slc_l, slc_h, slc_lh, slc_hm, slc_lhm, slc_0, slcR_some, slcR_none, cutS_ok, cutA_ok, byteAt_ok]; first | done | (repeat' (first | rfl | apply And.intro))) ⟨_, rfl, by simp; first | done | (repeat' (first | rfl | apply And.intro))⟩ rfl (by kernel_rfl) (by kernel_rfl) ((h1.kept kf.keep).src') (by omega) ho1 (by omega) (by omega) fun v' H3 o1 b1 s1 => ?_
          rw [Nat.zero_add, List.nil_append] at o1
          refine walk (both k25 (both k26 k27)) ?_
          exact Roundq.normal 1 (by omega) ⟨by simp [k25], by simp [k26], .inr (.inl ⟨rfl, by simp, by simpa using kf.app o1 b1 s1⟩)⟩
        · have hb3' := (kf.keep.get hb1).trans hb2
          refine walk (both k25 (both k26 (both k27 (both hb3' x1)))) ?_
          refine Oq.appendG (own := kf.own) (new := c2) (m := n2) (by simp (disch := omega) [hb3', x1, -getElem?_pos, wrapI64, tdivN, tmodN, ipos, ineg, dpos, dneg, slc_l, slc_h, slc_lh, slc_hm, slc_lhm, slc_0, slcR_some, slcR_none, cutS_ok, cutA_ok, byteAt_ok]; first | done | (repeat' (first | rfl | apply And.intro))) ⟨_, rfl, by simp; first | done | (repeat' (first | rfl | apply And.intro))⟩ rfl (by kernel_rfl) (by kernel_rfl) ((h2.kept kf.keep).src') (by omega) ho2 (by omega) (by omega) fun v' H3 o1 b1 s1 => ?_
          refine walk (both k25 (both k26 k27)) ?_
          exact Roundq.normal 0 (by omega) ⟨by simp [k25], by simp [k26], .inr (.inr ⟨rfl, by simp, by simpa using kf.app o1 b1 s1⟩)⟩
        · refine walk (both k25 (both k26 k27)) ?_
          exact kf
end Go.Abs

/- Chapter 03: Join, walked. -/
namespace Go.Abs
open Go.Proofs
set_option maxRecDepth 100000
set_option linter.unusedVariables false
set_option linter.unusedSimpArgs false

def joinQ (a a' : Bool) (l : List Txt) : Bool := a' || (!a && decide (l = []))
def joinA (a a' : Bool) (l : List Txt) : Bool := if joinQ a a' l then a' else a
def joinD (a a' d d' : Bool) (l m : List Txt) : Bool := if joinQ a a' l then d' else if m = [] then d else d'
def joinL (a a' : Bool) (l m : List Txt) : List Txt := if joinQ a a' l then m else l ++ m
theorem join_ok {H : Heap} {a d a' d' : Bool} {v w : AV} {l m : List Txt} (h : Ss H v l) (h' : Ss H w m) (hl : l.length ≤ 100000) (hm : m.length ≤ 100000) :
    Cl Try.prog pr03 16 [.agg [.bool a, .bool d, v], .agg [.bool a', .bool d', w]] H fun r H' => ∃ u, r = .agg [.bool (joinA a a' l), .bool (joinD a a' d d' l m), u] ∧ Ss H' u (joinL a a' l m) ∧ Keep H H' := by
  obtain ⟨va, cap, ex, rfl, hc, hex⟩ := h.form
  obtain ⟨vb, cap', ex', rfl, hc', hex'⟩ := h'.form
  obtain ⟨L, hL⟩ : ∃ L, l.length = L := ⟨_, rfl⟩
  obtain ⟨M, hM⟩ : ∃ M, m.length = M := ⟨_, rfl⟩
  rw [hL] at h ⊢
  rw [hM] at h' ⊢
  have kk : Keep H (((H.push (.cells [.bool a, .bool d, .slice va L cap ex] 28 true false)).push (.cells [.bool a', .bool d', .slice vb M cap' ex'] 28 true false)).push (.cells [.bool false, .bool false, .slice none 0 0 none] 28 true false)) := ((Upd.rfl.push _).push _).push _
  refine Cl.enter Try.func16 rfl rfl Try.ntmps16 (by simp) ?_
  refine walk none0 ?_
  cases a' with
  | true =>
    refine walk none0 ?_
    have hQ : joinQ a true l = true := rfl
    unfold joinA joinD joinL
    rw [if_pos hQ, if_pos hQ, if_pos hQ]
    refine Wq.regionM [(4, 0), (5, 0), (6, 0), (0, 0), (1, 2), (2, 0), (3, 2), (7, 0), (8, 0)] (by kernel_rfl) ?_
    refine mwalk none0 ?_
    refine (clone_ok (h'.kept kk) (by omega)).mono fun w1 H1 hn1 f1 => ?_
    simp at hn1
    obtain ⟨wa, wc, wx, rfl, _⟩ := f1.own.form
    have gq : H1.get (H.next + 1) = some (.cells [.bool true, .bool d', .slice vb M cap' ex'] 28 true false) := by
      rw [f1.keep.get (by simp <;> omega)]; simp (disch := omega) [ineg]
    have gr : H1.get (H.next + 1 + 1) = some (.cells [.bool false, .bool false, .slice none 0 0 none] 28 true false) := by
      rw [f1.keep.get (by simp)]; simp (disch := omega) [ineg]
    have hz : ∀ z, slBlock (AV.slice wa m.length wc wx) = some z → H.next + 3 ≤ z := fun z e => by have := f1.new z e; simp at this; omega
    refine mwalk (both gq gr) ?_
    refine walk none0 ?_
    exact ⟨_, rfl, Sl.set f1.own.sl _ (fun e => by have := hz _ e; omega), (kk.then f1.keep).set _ (by omega) (fun h => by omega)⟩
  | false =>
    cases a with
    | true =>
      refine walk none0 ?_
      have hQ : joinQ true false l = false := rfl
      have hQ' : ¬ joinQ true false l = true := by rw [hQ]; simp
      unfold joinA joinD joinL
      rw [if_neg hQ', if_neg hQ', if_neg hQ']
      by_cases hM0 : M = 0
      · have hM1 : (M : Int) = 0 := by omega
        have hm0 : m = [] := List.eq_nil_of_length_eq_zero (by omega)
        rw [if_pos hm0]
        refine walk hM1 ?_
        refine Wq.regionM [(3, 0), (4, 0), (5, 0), (6, 0), (7, 0), (8, 0), (0, 0), (1, 2), (2, 0), (9, 0), (10, 0)] (by kernel_rfl) ?_
        refine mwalk none0 ?_
        have kk2 : Keep (((H.push (.cells [.bool true, .bool d, .slice va L cap ex] 28 true false)).push (.cells [.bool false, .bool d', .slice vb M cap' ex'] 28 true false)).push (.cells [.bool false, .bool false, .slice none 0 0 none] 28 true false)) ((((H.push (.cells [.bool true, .bool d, .slice va L cap ex] 28 true false)).push (.cells [.bool false, .bool d', .slice vb M cap' ex'] 28 true false)).push (.cells [.bool false, .bool false, .slice none 0 0 none] 28 true false)).push (.cells [.slice va L cap ex, .slice vb M cap' ex'] 26 true false)) := Upd.rfl.push _
        have hp2 : Sl ((((H.push (.cells [.bool true, .bool d, .slice va L cap ex] 28 true false)).push (.cells [.bool false, .bool d', .slice vb M cap' ex'] 28 true false)).push (.cells [.bool false, .bool false, .slice none 0 0 none] 28 true false)).push (.cells [.slice va L cap ex, .slice vb M cap' ex'] 26 true false)) 1 (.slice (some (H.next + 1 + 1 + 1, 0)) 2 2 none) 2 [.slice va L cap ex, .slice vb M cap' ex'] := by
          unfold Sl
          exact ⟨rfl, .inr ⟨_, _, _, _, rfl, by omega, .inl rfl, fun _ => ⟨by simp, _, _, _, _, by simp (disch := omega) [ineg]; exact ⟨rfl, rfl, rfl, rfl⟩, by simp, by simp⟩⟩⟩
        have k3 := kk.then kk2
        refine (concat2 _ _ _ _ _ _ _ _ hp2 (h.kept k3) (h'.kept k3) (strs_one l) (strs_one m) (by omega) (by omega)).mono fun w1 H1 hn1 f1 => ?_
        simp at hn1
        obtain ⟨wa, wc, wx, rfl, _⟩ := f1.own.form
        have gp : H1.get H.next = some (.cells [.bool true, .bool d, .slice va L cap ex] 28 true false) := by
          rw [f1.keep.get (by simp; omega)]; simp (disch := omega) [ineg]
        have gr : H1.get (H.next + 1 + 1) = some (.cells [.bool false, .bool false, .slice none 0 0 none] 28 true false) := by
          rw [f1.keep.get (by simp)]; simp (disch := omega) [ineg]
        have hz : ∀ z, slBlock (AV.slice wa (l.length + m.length) wc wx) = some z → H.next + 3 ≤ z := fun z e => by have := f1.new z e; simp at this; omega
        have hlm : l.length + m.length = (l ++ m).length := by simp
        have hsl : Ss H1 (AV.slice wa (l.length + m.length) wc wx) (l ++ m) := by
          have := f1.own.sl
          rw [strs_app] at this
          unfold Ss
          rw [← hlm]; exact this
        generalize l.length + m.length = LM at *
        refine mwalk (both gp gr) ?_
        refine walk none0 ?_
        exact ⟨_, rfl, Sl.set hsl _ (fun e => by have := hz _ e; omega), (k3.then f1.keep).set _ (by omega) (fun h => by omega)⟩
      · have hM1 : ¬ (M : Int) = 0 := by omega
        have hm0 : ¬ m = [] := by rintro rfl; exact hM0 (by rw [← hM]; rfl)
        rw [if_neg hm0]
        refine walk hM1 ?_
        refine Wq.regionM [(3, 0), (4, 0), (5, 0), (6, 0), (7, 0), (8, 0), (0, 0), (1, 2), (2, 0), (9, 0), (10, 0)] (by kernel_rfl) ?_
        refine mwalk none0 ?_
        have kk2 : Keep (((H.push (.cells [.bool true, .bool d, .slice va L cap ex] 28 true false)).push (.cells [.bool false, .bool d', .slice vb M cap' ex'] 28 true false)).push (.cells [.bool false, .bool false, .slice none 0 0 none] 28 true false)) ((((H.push (.cells [.bool true, .bool d, .slice va L cap ex] 28 true false)).push (.cells [.bool false, .bool d', .slice vb M cap' ex'] 28 true false)).push (.cells [.bool false, .bool false, .slice none 0 0 none] 28 true false)).push (.cells [.slice va L cap ex, .slice vb M cap' ex'] 26 true false)) := Upd.rfl.push _
        have hp2 : Sl ((((H.push (.cells [.bool true, .bool d, .slice va L cap ex] 28 true false)).push (.cells [.bool false, .bool d', .slice vb M cap' ex'] 28 true false)).push (.cells [.bool false, .bool false, .slice none 0 0 none] 28 true false)).push (.cells [.slice va L cap ex, .slice vb M cap' ex'] 26 true false)) 1 (.slice (some (H.next + 1 + 1 + 1, 0)) 2 2 none) 2 [.slice va L cap ex, .slice vb M cap' ex'] := by
          unfold Sl
          exact ⟨rfl, .inr ⟨_, _, _, _, rfl, by omega, .inl rfl, fun _ => ⟨by simp, _, _, _, _, by simp (disch := omega) [ineg]; exact ⟨rfl, rfl, rfl, rfl⟩, by simp, by simp⟩⟩⟩
        have k3 := kk.then kk2
        refine (concat2 _ _ _ _ _ _ _ _ hp2 (h.kept k3) (h'.kept k3) (strs_one l) (strs_one m) (by omega) (by omega)).mono fun w1 H1 hn1 f1 => ?_
        simp at hn1
        obtain ⟨wa, wc, wx, rfl, _⟩ := f1.own.form
        have gp : H1.get H.next = some (.cells [.bool true, .bool d, .slice va L cap ex] 28 true false) := by
          rw [f1.keep.get (by simp; omega)]; simp (disch := omega) [ineg]
        have gr : H1.get (H.next + 1 + 1) = some (.cells [.bool false, .bool false, .slice none 0 0 none] 28 true false) := by
          rw [f1.keep.get (by simp)]; simp (disch := omega) [ineg]
        have hz : ∀ z, slBlock (AV.slice wa (l.length + m.length) wc wx) = some z → H.next + 3 ≤ z := fun z e => by have := f1.new z e; simp at this; omega
        have hlm : l.length + m.length = (l ++ m).length := by simp
        have hsl : Ss H1 (AV.slice wa (l.length + m.length) wc wx) (l ++ m) := by
          have := f1.own.sl
          rw [strs_app] at this
          unfold Ss
          rw [← hlm]; exact this
        generalize l.length + m.length = LM at *
        refine mwalk (both gp gr) ?_
        refine walk none0 ?_
        exact ⟨_, rfl, Sl.set hsl _ (fun e => by have := hz _ e; omega), (k3.then f1.keep).set _ (by omega) (fun h => by omega)⟩
    | false =>
      by_cases h0 : L = 0
      · have h1 : (L : Int) = 0 := by omega
        have hl0 : l = [] := List.eq_nil_of_length_eq_zero (by omega)
        refine walk h1 ?_
        have hQ : joinQ false false l = true := (by simp [joinQ, hl0])
        unfold joinA joinD joinL
        rw [if_pos hQ, if_pos hQ, if_pos hQ]
        refine Wq.regionM [(4, 0), (5, 0), (6, 0), (0, 0), (1, 2), (2, 0), (3, 2), (7, 0), (8, 0)] (by kernel_rfl) ?_
        refine mwalk none0 ?_
        refine (clone_ok (h'.kept kk) (by omega)).mono fun w1 H1 hn1 f1 => ?_
        simp at hn1
        obtain ⟨wa, wc, wx, rfl, _⟩ := f1.own.form
        have gq : H1.get (H.next + 1) = some (.cells [.bool false, .bool d', .slice vb M cap' ex'] 28 true false) := by
          rw [f1.keep.get (by simp <;> omega)]; simp (disch := omega) [ineg]
        have gr : H1.get (H.next + 1 + 1) = some (.cells [.bool false, .bool false, .slice none 0 0 none] 28 true false) := by
          rw [f1.keep.get (by simp)]; simp (disch := omega) [ineg]
        have hz : ∀ z, slBlock (AV.slice wa m.length wc wx) = some z → H.next + 3 ≤ z := fun z e => by have := f1.new z e; simp at this; omega
        refine mwalk (both gq gr) ?_
        refine walk none0 ?_
        exact ⟨_, rfl, Sl.set f1.own.sl _ (fun e => by have := hz _ e; omega), (kk.then f1.keep).set _ (by omega) (fun h => by omega)⟩
      · have h1 : ¬ (L : Int) = 0 := by omega
        have hl0 : ¬ l = [] := by rintro rfl; exact h0 (by rw [← hL]; rfl)
        refine walk h1 ?_
        have hQ : joinQ false false l = false := (by simp [joinQ, hl0])
        have hQ' : ¬ joinQ false false l = true := by rw [hQ]; simp
        unfold joinA joinD joinL
        rw [if_neg hQ', if_neg hQ', if_neg hQ']
        by_cases hM0 : M = 0
        · have hM1 : (M : Int) = 0 := by omega
          have hm0 : m = [] := List.eq_nil_of_length_eq_zero (by omega)
          rw [if_pos hm0]
          refine walk hM1 ?_
          refine Wq.regionM [(3, 0), (4, 0), (5, 0), (6, 0), (7, 0), (8, 0), (0, 0), (1, 2), (2, 0), (9, 0), (10, 0)] (by kernel_rfl) ?_
          refine mwalk none0 ?_
          have kk2 : Keep (((H.push (.cells [.bool false, .bool d, .slice va L cap ex] 28 true false)).push (.cells [.bool false, .bool d', .slice vb M cap' ex'] 28 true false)).push (.cells [.bool false, .bool false, .slice none 0 0 none] 28 true false)) ((((H.push (.cells [.bool false, .bool d, .slice va L cap ex] 28 true false)).push (.cells [.bool false, .bool d', .slice vb M cap' ex'] 28 true false)).push (.cells [.bool false, .bool false, .slice none 0 0 none] 28 true false)).push (.cells [.slice va L cap ex, .slice vb M cap' ex'] 26 true false)) := Upd.rfl.push _
          have hp2 : Sl ((((H.push (.cells [.bool false, .bool d, .slice va L cap ex] 28 true false)).push (.cells [.bool false, .bool d', .slice vb M cap' ex'] 28 true false)).push (.cells [.bool false, .bool false, .slice none 0 0 none] 28 true false)).push (.cells [.slice va L cap ex, .slice vb M cap' ex'] 26 true false)) 1 (.slice (some (H.next + 1 + 1 + 1, 0)) 2 2 none) 2 [.slice va L cap ex, .slice vb M cap' ex'] := by
            unfold Sl
            exact ⟨rfl, .inr ⟨_, _, _, _, rfl, by omega, .inl rfl, fun _ => ⟨by simp, _, _, _, _, by simp (disch := omega) [ineg]; exact ⟨rfl, rfl, rfl, rfl⟩, by simp, by simp⟩⟩⟩
          have k3 := kk.then kk2
          refine (concat2 _ _ _ _ _ _ _ _ hp2 (h.kept k3) (h'.kept k3) (strs_one l) (strs_one m) (by omega) (by omega)).mono fun w1 H1 hn1 f1 => ?_
          simp at hn1
          obtain ⟨wa, wc, wx, rfl, _⟩ := f1.own.form
          have gp : H1.get H.next = some (.cells [.bool false, .bool d, .slice va L cap ex] 28 true false) := by
            rw [f1.keep.get (by simp; omega)]; simp (disch := omega) [ineg]
          have gr : H1.get (H.next + 1 + 1) = some (.cells [.bool false, .bool false, .slice none 0 0 none] 28 true false) := by
            rw [f1.keep.get (by simp)]; simp (disch := omega) [ineg]
          have hz : ∀ z, slBlock (AV.slice wa (l.length + m.length) wc wx) = some z → H.next + 3 ≤ z := fun z e => by have := f1.new z e; simp at this; omega
          have hlm : l.length + m.length = (l ++ m).length := by simp
          have hsl : Ss H1 (AV.slice wa (l.length + m.length) wc wx) (l ++ m) := by
            have := f1.own.sl
            rw [strs_app] at this
            unfold Ss
            rw [← hlm]; exact this
          generalize l.length + m.length = LM at *
          refine mwalk (both gp gr) ?_
          refine walk none0 ?_
          exact ⟨_, rfl, Sl.set hsl _ (fun e => by have := hz _ e; omega), (k3.then f1.keep).set _ (by omega) (fun h => by omega)⟩
        · have hM1 : ¬ (M : Int) = 0 := by omega
          have hm0 : ¬ m = [] := by rintro rfl; exact hM0 (by rw [← hM]; rfl)
          rw [if_neg hm0]
          refine walk hM1 ?_
          refine Wq.regionM [(3, 0), (4, 0), (5, 0), (6, 0), (7, 0), (8, 0), (0, 0), (1, 2), (2, 0), (9, 0), (10, 0)] (by kernel_rfl) ?_
          refine mwalk none0 ?_
          have kk2 : Keep (((H.push (.cells [.bool false, .bool d, .slice va L cap ex] 28 true false)).push (.cells [.bool false, .bool d', .slice vb M cap' ex'] 28 true false)).push (.cells [.bool false, .bool false, .slice none 0 0 none] 28 true false)) ((((H.push (.cells [.bool false, .bool d, .slice va L cap ex] 28 true false)).push (.cells [.bool false, .bool d', .slice vb M cap' ex'] 28 true false)).push (.cells [.bool false, .bool false, .slice none 0 0 none] 28 true false)).push (.cells [.slice va L cap ex, .slice vb M cap' ex'] 26 true false)) := Upd.rfl.push _
          have hp2 : Sl ((((H.push (.cells [.bool false, .bool d, .slice va L cap ex] 28 true false)).push (.cells [.bool false, .bool d', .slice vb M cap' ex'] 28 true false)).push (.cells [.bool false, .bool false, .slice none 0 0 none] 28 true false)).push (.cells [.slice va L cap ex, .slice vb M cap' ex'] 26 true false)) 1 (.slice (some (H.next + 1 + 1 + 1, 0)) 2 2 none) 2 [.slice va L cap ex, .slice vb M cap' ex'] := by
            unfold Sl
            exact ⟨rfl, .inr ⟨_, _, _, _, rfl, by omega, .inl rfl, fun _ => ⟨by simp, _, _, _, _, by simp (disch := omega) [ineg]; exact ⟨rfl, rfl, rfl, rfl⟩, by simp, by simp⟩⟩⟩
          have k3 := kk.then kk2
          refine (concat2 _ _ _ _ _ _ _ _ hp2 (h.kept k3) (h'.kept k3) (strs_one l) (strs_one m) (by omega) (by omega)).mono fun w1 H1 hn1 f1 => ?_
          simp at hn1
          obtain ⟨wa, wc, wx, rfl, _⟩ := f1.own.form
          have gp : H1.get H.next = some (.cells [.bool false, .bool d, .slice va L cap ex] 28 true false) := by
            rw [f1.keep.get (by simp; omega)]; simp (disch := omega) [ineg]
          have gr : H1.get (H.next + 1 + 1) = some (.cells [.bool false, .bool false, .slice none 0 0 none] 28 true false) := by
            rw [f1.keep.get (by simp)]; simp (disch := omega) [ineg]
          have hz : ∀ z, slBlock (AV.slice wa (l.length + m.length) wc wx) = some z → H.next + 3 ≤ z := fun z e => by have := f1.new z e; simp at this; omega
          have hlm : l.length + m.length = (l ++ m).length := by simp
          have hsl : Ss H1 (AV.slice wa (l.length + m.length) wc wx) (l ++ m) := by
            have := f1.own.sl
            rw [strs_app] at this
            unfold Ss
            rw [← hlm]; exact this
          generalize l.length + m.length = LM at *
          refine mwalk (both gp gr) ?_
          refine walk none0 ?_
          exact ⟨_, rfl, Sl.set hsl _ (fun e => by have := hz _ e; omega), (k3.then f1.keep).set _ (by omega) (fun h => by omega)⟩
end Go.Abs

/- Chapter 03: the reference's Join, walked. -/
namespace Go.Abs
open Go.Proofs
set_option maxRecDepth 100000
set_option linter.unusedVariables false
set_option linter.unusedSimpArgs false

theorem refJoin_ok {H : Heap} {a d a' d' : Bool} {v w : AV} {l m : List Txt} (h : Ss H v l) (h' : Ss H w m) (hl : l.length ≤ 100000) (hm : m.length ≤ 100000) :
    Cl Try.prog pr03 17 [.agg [.bool a, .bool d, v], .agg [.bool a', .bool d', w]] H fun r H' => ∃ u, r = .agg [.bool (joinA a a' l), .bool (joinD a a' d d' l m), u] ∧ Ss H' u (joinL a a' l m) ∧ Keep H H' := by
  obtain ⟨va, cap, ex, rfl, hc, hex⟩ := h.form
  obtain ⟨vb, cap', ex', rfl, hc', hex'⟩ := h'.form
  obtain ⟨L, hL⟩ : ∃ L, l.length = L := ⟨_, rfl⟩
  obtain ⟨M, hM⟩ : ∃ M, m.length = M := ⟨_, rfl⟩
  rw [hL] at h ⊢
  rw [hM] at h' ⊢
  have kk : Keep H (((H.push (.cells [.bool a, .bool d, .slice va L cap ex] 28 true false)).push (.cells [.bool a', .bool d', .slice vb M cap' ex'] 28 true false)).push (.cells [.bool false, .bool false, .slice none 0 0 none] 28 true false)) := ((Upd.rfl.push _).push _).push _
  refine Cl.enter Try.func17 rfl rfl Try.ntmps17 (by simp) ?_
  refine walk none0 ?_
  cases a' with
  | true =>
    refine walk none0 ?_
    have hQ : joinQ a true l = true := rfl
    unfold joinA joinD joinL
    rw [if_pos hQ, if_pos hQ, if_pos hQ]
    refine walk none0 ?_
    have k2 := fun o => kk.set (b := H.next + 1 + 1) o (by simp) (fun h => by omega)
    exact ⟨_, rfl, h'.kept (k2 _), k2 _⟩
  | false =>
    by_cases h0 : L = 0
    · have h1 : (L : Int) = 0 := by omega
      have hl0 : l = [] := List.eq_nil_of_length_eq_zero (by omega)
      cases a with
      | true =>
        refine walk h1 ?_
        have hQ : joinQ true false l = false := rfl
        have hQ' : ¬ joinQ true false l = true := by rw [hQ]; simp
        unfold joinA joinD joinL
        rw [if_neg hQ', if_neg hQ', if_neg hQ']
        refine Wq.regionM [(4, 0), (5, 0), (6, 0), (7, 0), (8, 0), (9, 2), (10, 0), (0, 0), (1, 3), (2, 0), (3, 3), (11, 0), (12, 0), (13, 0)] (by kernel_rfl) ?_
        refine mwalk none0 ?_
        refine Dq.appendG (own := (.empty _)) (new := strs l) (q := l.length) rfl met_none (by simp (disch := omega) [-getElem?_pos, wrapI64, tdivN, tmodN, ipos, ineg, dpos, dneg, slc_l, slc_h, slc_lh, slc_hm, slc_lhm, slc_0, slcR_some, slcR_none, cutS_ok, cutA_ok, byteAt_ok]; first | done | (repeat' (first | rfl | apply And.intro))) ⟨_, rfl, by simp; first | done | (repeat' (first | rfl | apply And.intro))⟩ rfl (by kernel_rfl) (by kernel_rfl) (((h.kept kk).kept (Upd.rfl.push _)).src') (by simp) (strs_one l) (by omega) (by omega) fun w1 H1 o1 b1 s1 => ?_
        have hn1 := b1.1
        simp at hn1
        have gg : ∀ z o, z < H.next + 3 → (((H.push (.cells [.bool true, .bool d, .slice va L cap ex] 28 true false)).push (.cells [.bool false, .bool d', .slice vb M cap' ex'] 28 true false)).push (.cells [.bool false, .bool false, .slice none 0 0 none] 28 true false)).get z = some o → H1.get z = some o := by
          intro z o hz ho
          rw [b1.2.2 z (by simp; omega) (by simp [slBlock]; omega), Heap.get_push, if_neg (by simp; omega)]; exact ho
        have gp1 := gg H.next (.cells [.bool true, .bool d, .slice va L cap ex] 28 true false) (by omega) (by simp (disch := omega) [ineg])
        have gq1 := gg (H.next + 1) (.cells [.bool false, .bool d', .slice vb M cap' ex'] 28 true false) (by omega) (by simp (disch := omega) [ineg])
        have gr1 := gg (H.next + 1 + 1) (.cells [.bool false, .bool false, .slice none 0 0 none] 28 true false) (by omega) (by simp (disch := omega) [ineg])
        have f1 : FreshG H H1 9 1 w1 (0 + l.length) ([] ++ strs l) := (FreshG.made (H0 := H) (cs := []) (n := 0) (elem := 9) (s := 1) (kk.push _) (by simp) (b := H.next + 1 + 1 + 1) (by omega) (by simp) (by simp (disch := omega) [ineg])).app o1 b1 s1
        have hz1 : ∀ z, slBlock w1 = some z → H.next + 3 ≤ z := by
          intro z e
          rcases s1 with e' | e'
          · rw [e'] at e; simp [slBlock] at e; omega
          · rw [e'] at e; simp at e; omega
        refine mwalk (both gp1 (both gq1 gr1)) ?_
        refine Dq.appendG (own := o1) (new := strs m) (q := m.length) rfl met_none (by simp (disch := omega) [-getElem?_pos, wrapI64, tdivN, tmodN, ipos, ineg, dpos, dneg, slc_l, slc_h, slc_lh, slc_hm, slc_lhm, slc_0, slcR_some, slcR_none, cutS_ok, cutA_ok, byteAt_ok]; first | done | (repeat' (first | rfl | apply And.intro))) ⟨_, rfl, by simp; first | done | (repeat' (first | rfl | apply And.intro))⟩ rfl (by kernel_rfl) (by kernel_rfl) ((h'.kept f1.keep).src') (by simp) (strs_one m) (by omega) (by omega) fun w2 H2 o2 b2 s2 => ?_
        have hn2 := b2.1
        have gg2 : ∀ z o, z < H.next + 3 → H1.get z = some o → H2.get z = some o := by
          intro z o hz ho
          rw [b2.2.2 z (by omega) (fun e => by have := hz1 z e.symm; omega)]; exact ho
        have gp2 := gg2 _ _ (by omega) gp1
        have gq2 := gg2 _ _ (by omega) gq1
        have gr2 := gg2 _ _ (by omega) gr1
        have f2 := f1.app o2 b2 s2
        have hz2 : ∀ z, slBlock w2 = some z → H.next + 3 ≤ z := by
          intro z e
          rcases s2 with e' | e'
          · rw [e'] at e; exact hz1 z e
          · rw [e'] at e; simp at e; omega
        have hsl : Ss H2 w2 (l ++ m) := by
          have := f2.own.sl
          rw [List.nil_append, strs_app, Nat.zero_add, ← List.length_append] at this
          exact this
        obtain ⟨wa, wc, wx, rfl, _⟩ := hsl.form
        generalize hLM : (l ++ m).length = LM at *
        refine mwalk (both gp1 (both gq1 (both gr1 (both gp2 (both gq2 gr2))))) ?_
        have kB : Keep H H2 := f2.keep
        have k5 : Keep H2 ((H2.push (.cells [.bool false, .bool false, .slice none 0 0 none] 28 true false)).set H2.next (.cells [.bool true, .bool d', .slice wa LM wc wx] 28 true false)) := (Upd.rfl.push _).set _ (by simp) (fun h => by omega)
        by_cases hM0 : M = 0
        · have hM1 : (M : Int) = 0 := by omega
          have hm0 : m = [] := List.eq_nil_of_length_eq_zero (by omega)
          rw [if_pos hm0]
          refine walk (both gp2 (both gq2 (both gr2 hM1))) ?_
          exact ⟨_, rfl, Sl.set (hsl.kept (k5.set _ (by simp) (fun h => by omega))) _ (fun e => by have := hz2 _ e; omega), ((kB.then k5).set _ (by simp) (fun h => by omega)).set _ (by simp; omega) (fun h => by omega)⟩
        · have hM1 : ¬ (M : Int) = 0 := by omega
          have hm0 : ¬ m = [] := by rintro rfl; exact hM0 (by rw [← hM]; rfl)
          rw [if_neg hm0]
          refine walk (both gp2 (both gq2 (both gr2 hM1))) ?_
          exact ⟨_, rfl, Sl.set (hsl.kept k5) _ (fun e => by have := hz2 _ e; omega), (kB.then k5).set _ (by simp; omega) (fun h => by omega)⟩
      | false =>
        refine walk h1 ?_
        have hQ : joinQ false false l = true := (by simp [joinQ, hl0])
        unfold joinA joinD joinL
        rw [if_pos hQ, if_pos hQ, if_pos hQ]
        refine walk none0 ?_
        have k2 := fun o => kk.set (b := H.next + 1 + 1) o (by simp) (fun h => by omega)
        exact ⟨_, rfl, h'.kept (k2 _), k2 _⟩
    · have h1 : ¬ (L : Int) = 0 := by omega
      have hl0 : ¬ l = [] := by rintro rfl; exact h0 (by rw [← hL]; rfl)
      refine walk h1 ?_
      have hQ : joinQ a false l = false := (by simp [joinQ, hl0])
      have hQ' : ¬ joinQ a false l = true := by rw [hQ]; simp
      unfold joinA joinD joinL
      rw [if_neg hQ', if_neg hQ', if_neg hQ']
      refine Wq.regionM [(4, 0), (5, 0), (6, 0), (7, 0), (8, 0), (9, 2), (10, 0), (0, 0), (1, 3), (2, 0), (3, 3), (11, 0), (12, 0), (13, 0)] (by kernel_rfl) ?_
      refine mwalk none0 ?_
      refine Dq.appendG (own := (.empty _)) (new := strs l) (q := l.length) rfl met_none (by simp (disch := omega) [-getElem?_pos, wrapI64, tdivN, tmodN, ipos, ineg, dpos, dneg, slc_l, slc_h, slc_lh, slc_hm, slc_lhm, slc_0, slcR_some, slcR_none, cutS_ok, cutA_ok, byteAt_ok]; first | done | (repeat' (first | rfl | apply And.intro))) ⟨_, rfl, by simp; first | done | (repeat' (first | rfl | apply And.intro))⟩ rfl (by kernel_rfl) (by kernel_rfl) (((h.kept kk).kept (Upd.rfl.push _)).src') (by simp) (strs_one l) (by omega) (by omega) fun w1 H1 o1 b1 s1 => ?_
      have hn1 := b1.1
      simp at hn1
      have gg : ∀ z o, z < H.next + 3 → (((H.push (.cells [.bool a, .bool d, .slice va L cap ex] 28 true false)).push (.cells [.bool false, .bool d', .slice vb M cap' ex'] 28 true false)).push (.cells [.bool false, .bool false, .slice none 0 0 none] 28 true false)).get z = some o → H1.get z = some o := by
        intro z o hz ho
        rw [b1.2.2 z (by simp; omega) (by simp [slBlock]; omega), Heap.get_push, if_neg (by simp; omega)]; exact ho
      have gp1 := gg H.next (.cells [.bool a, .bool d, .slice va L cap ex] 28 true false) (by omega) (by simp (disch := omega) [ineg])
      have gq1 := gg (H.next + 1) (.cells [.bool false, .bool d', .slice vb M cap' ex'] 28 true false) (by omega) (by simp (disch := omega) [ineg])
      have gr1 := gg (H.next + 1 + 1) (.cells [.bool false, .bool false, .slice none 0 0 none] 28 true false) (by omega) (by simp (disch := omega) [ineg])
      have f1 : FreshG H H1 9 1 w1 (0 + l.length) ([] ++ strs l) := (FreshG.made (H0 := H) (cs := []) (n := 0) (elem := 9) (s := 1) (kk.push _) (by simp) (b := H.next + 1 + 1 + 1) (by omega) (by simp) (by simp (disch := omega) [ineg])).app o1 b1 s1
      have hz1 : ∀ z, slBlock w1 = some z → H.next + 3 ≤ z := by
        intro z e
        rcases s1 with e' | e'
        · rw [e'] at e; simp [slBlock] at e; omega
        · rw [e'] at e; simp at e; omega
      refine mwalk (both gp1 (both gq1 gr1)) ?_
      refine Dq.appendG (own := o1) (new := strs m) (q := m.length) rfl met_none (by simp (disch := omega) [-getElem?_pos, wrapI64, tdivN, tmodN, ipos, ineg, dpos, dneg, slc_l, slc_h, slc_lh, slc_hm, slc_lhm, slc_0, slcR_some, slcR_none, cutS_ok, cutA_ok, byteAt_ok]; first | done | (repeat' (first | rfl | apply And.intro))) ⟨_, rfl, by simp; first | done | (repeat' (first | rfl | apply And.intro))⟩ rfl (by kernel_rfl) (by kernel_rfl) ((h'.kept f1.keep).src') (by simp) (strs_one m) (by omega) (by omega) fun w2 H2 o2 b2 s2 => ?_
      have hn2 := b2.1
      have gg2 : ∀ z o, z < H.next + 3 → H1.get z = some o → H2.get z = some o := by
        intro z o hz ho
        rw [b2.2.2 z (by omega) (fun e => by have := hz1 z e.symm; omega)]; exact ho
      have gp2 := gg2 _ _ (by omega) gp1
      have gq2 := gg2 _ _ (by omega) gq1
      have gr2 := gg2 _ _ (by omega) gr1
      have f2 := f1.app o2 b2 s2
      have hz2 : ∀ z, slBlock w2 = some z → H.next + 3 ≤ z := by
        intro z e
        rcases s2 with e' | e'
        · rw [e'] at e; exact hz1 z e
        · rw [e'] at e; simp at e; omega
      have hsl : Ss H2 w2 (l ++ m) := by
        have := f2.own.sl
        rw [List.nil_append, strs_app, Nat.zero_add, ← List.length_append] at this
        exact this
      obtain ⟨wa, wc, wx, rfl, _⟩ := hsl.form
      generalize hLM : (l ++ m).length = LM at *
      refine mwalk (both gp1 (both gq1 (both gr1 (both gp2 (both gq2 gr2))))) ?_
      have kB : Keep H H2 := f2.keep
      have k5 : Keep H2 ((H2.push (.cells [.bool false, .bool false, .slice none 0 0 none] 28 true false)).set H2.next (.cells [.bool a, .bool d', .slice wa LM wc wx] 28 true false)) := (Upd.rfl.push _).set _ (by simp) (fun h => by omega)
      by_cases hM0 : M = 0
      · have hM1 : (M : Int) = 0 := by omega
        have hm0 : m = [] := List.eq_nil_of_length_eq_zero (by omega)
        rw [if_pos hm0]
        refine walk (both gp2 (both gq2 (both gr2 hM1))) ?_
        exact ⟨_, rfl, Sl.set (hsl.kept (k5.set _ (by simp) (fun h => by omega))) _ (fun e => by have := hz2 _ e; omega), ((kB.then k5).set _ (by simp) (fun h => by omega)).set _ (by simp; omega) (fun h => by omega)⟩
      · have hM1 : ¬ (M : Int) = 0 := by omega
        have hm0 : ¬ m = [] := by rintro rfl; exact hM0 (by rw [← hM]; rfl)
        rw [if_neg hm0]
        refine walk (both gp2 (both gq2 (both gr2 hM1))) ?_
        exact ⟨_, rfl, Sl.set (hsl.kept k5) _ (fun e => by have := hz2 _ e; omega), (kB.then k5).set _ (by simp; omega) (fun h => by omega)⟩
end Go.Abs

/- Chapter 03: PathJoins, walked. -/
namespace Go.Abs
open Go.Proofs
set_option maxRecDepth 100000
set_option linter.unusedVariables false
set_option linter.unusedSimpArgs false

theorem joinL_len (a a' : Bool) (l m : List Txt) : (joinL a a' l m).length ≤ l.length + m.length := by unfold joinL; split <;> simp
theorem pathJoins_main {H : Heap} {a d a' d' : Bool} {v v' : AV} {l l' : List Txt} (h : Ss H v l) (h' : Ss H v' l') : Cl Try.prog pr03 5 [.agg [.bool a, .bool d, v], .agg [.bool a', .bool d', v']] H fun r _ => r = .bool true := by
  obtain ⟨va, cap, ex, rfl, hc, hex⟩ := h.form
  obtain ⟨vb, cap', ex', rfl, hc', hex'⟩ := h'.form
  have kk : Keep H ((H.push (.cells [.bool a, .bool d, .slice va l.length cap ex] 28 true false)).push (.cells [.bool a', .bool d', .slice vb l'.length cap' ex'] 28 true false)) := (Upd.rfl.push _).push _
  refine Cl.enter Try.func5 rfl rfl Try.ntmps5 (by simp) ?_
  refine walk none0 ?_
  refine Wq.regionM [(0, 0), (1, 0), (2, 2), (3, 0), (4, 0), (5, 0)] (by kernel_rfl) ?_
  refine mwalk none0 ?_
  refine (short_ok (h.kept kk)).mono fun r H1 hn1 ⟨w, e1, f1⟩ => ?_
  subst e1
  have hL := shortL_len l
  generalize shortL l = s at *
  obtain ⟨wa, wc, wx, rfl, _⟩ := f1.own.form
  simp at hn1
  have gp : H1.get H.next = some (.cells [.bool a, .bool d, .slice va l.length cap ex] 28 true false) := by
    rw [f1.keep.get (by simp <;> omega)]; simp (disch := omega) [ineg]
  have gq : H1.get (H.next + 1) = some (.cells [.bool a', .bool d', .slice vb l'.length cap' ex'] 28 true false) := by
    rw [f1.keep.get (by simp <;> omega)]; simp (disch := omega) [ineg]
  refine mwalk (both gp gq) ?_
  refine (short_ok (h'.kept (kk.then f1.keep))).mono fun r H2 hn2 ⟨w, e1, f2⟩ => ?_
  subst e1
  have hL' := shortL_len l'
  generalize shortL l' = s' at *
  obtain ⟨wa', wc', wx', rfl, _⟩ := f2.own.form
  have gp2 := (f2.keep.get (by omega)).trans gp
  have gq2 := (f2.keep.get (by omega)).trans gq
  refine mwalk (both gp2 gq2) ?_
  have s1 := Ss.kept (l := s) f1.own.sl f2.keep
  have z1 : ∀ z, slBlock (AV.slice wa s.length wc wx) = some z → H.next + 2 ≤ z := fun z e => by have := f1.new z e; simp at this; omega
  have z2 : ∀ z, slBlock (AV.slice wa' s'.length wc' wx') = some z → H.next + 2 ≤ z := fun z e => by have := f2.new z e; omega
  have t1 := fun o o' => Sl.set (Sl.set s1 (b := H.next) o (fun e => by have := z1 _ e; omega)) (b := H.next + 1) o' (fun e => by have := z1 _ e; omega)
  have t2 := fun o o' => Sl.set (Sl.set f2.own.sl (b := H.next) o (fun e => by have := z2 _ e; omega)) (b := H.next + 1) o' (fun e => by have := z2 _ e; omega)
  have q1 : ((H2.set H.next (.cells [.bool a, .bool d, .slice wa s.length wc wx] 28 true false)).set (H.next + 1) (.cells [.bool a', .bool d', .slice wa' s'.length wc' wx'] 28 true false)).get H.next = some (.cells [.bool a, .bool d, .slice wa s.length wc wx] 28 true false) := by simp (disch := omega) [ineg]
  have q2 : ((H2.set H.next (.cells [.bool a, .bool d, .slice wa s.length wc wx] 28 true false)).set (H.next + 1) (.cells [.bool a', .bool d', .slice wa' s'.length wc' wx'] 28 true false)).get (H.next + 1) = some (.cells [.bool a', .bool d', .slice wa' s'.length wc' wx'] 28 true false) := by simp (disch := omega) [ineg]
  have n1 : H.next + 1 < ((H2.set H.next (.cells [.bool a, .bool d, .slice wa s.length wc wx] 28 true false)).set (H.next + 1) (.cells [.bool a', .bool d', .slice wa' s'.length wc' wx'] 28 true false)).next := by simp; omega
  have u1 := t1 (.cells [.bool a, .bool d, .slice wa s.length wc wx] 28 true false) (.cells [.bool a', .bool d', .slice wa' s'.length wc' wx'] 28 true false)
  have u2 := t2 (.cells [.bool a, .bool d, .slice wa s.length wc wx] 28 true false) (.cells [.bool a', .bool d', .slice wa' s'.length wc' wx'] 28 true false)
  generalize (H2.set H.next (.cells [.bool a, .bool d, .slice wa s.length wc wx] 28 true false)).set (H.next + 1) (.cells [.bool a', .bool d', .slice wa' s'.length wc' wx'] 28 true false) = H3 at *
  have u1' : Ss H3 (AV.slice wa s.length wc wx) s := u1
  have u2' : Ss H3 (AV.slice wa' s'.length wc' wx') s' := u2
  generalize H.next = p at *
  clear t1 t2 u1 u2 s1 f1 f2 gp gq gp2 gq2 z1 z2 hn1 hn2
  refine walk none0 ?_
  refine Wq.regionM [(0, 0), (1, 0), (2, 2), (3, 0), (4, 0), (5, 4), (6, 4), (7, 0), (8, 0), (9, 0), (10, 0), (11, 0), (12, 0)] (by kernel_rfl) ?_
  refine mwalk (both q1 q2) ?_
  refine (own_ok u1' (by omega)).mono fun r H4 hn4 ⟨w4, e4, f4⟩ => ?_
  subst e4
  have a1 := (f4.keep.get (by omega)).trans q1
  have a2 := (f4.keep.get (by omega)).trans q2
  refine mwalk (both q1 (both q2 (both a1 a2))) ?_
  refine (own_ok (u2'.kept f4.keep) (by omega)).mono fun r H5 hn5 ⟨w5, e5, f5⟩ => ?_
  subst e5
  have b1 := (f5.keep.get (by omega)).trans a1
  have b2 := (f5.keep.get (by omega)).trans a2
  refine mwalk (both q1 (both q2 (both a1 (both a2 (both b1 b2))))) ?_
  refine (join_ok (Ss.kept (l := s) f4.own.sl f5.keep) f5.own.sl (by omega) (by omega)).mono fun r H6 hn6 ⟨w6, e6, s6, k6⟩ => ?_
  subst e6
  have c1 := (k6.get (by omega)).trans b1
  have c2 := (k6.get (by omega)).trans b2
  refine mwalk (both q1 (both q2 (both a1 (both a2 (both b1 (both b2 (both c1 c2))))))) ?_
  have k36 := (f4.keep.then f5.keep).then k6
  refine (refJoin_ok (u1'.kept k36) (u2'.kept k36) (by omega) (by omega)).mono fun r H7 hn7 ⟨w7, e7, s7, k7⟩ => ?_
  subst e7
  have d1 := (k7.get (by omega)).trans c1
  have d2 := (k7.get (by omega)).trans c2
  refine mwalk (both q1 (both q2 (both a1 (both a2 (both b1 (both b2 (both c1 (both c2 (both d1 d2))))))))) ?_
  have hjl := joinL_len a a' s s'
  refine (same_ok (s6.kept k7) s7 (by omega)).mono fun r H8 hn8 ⟨e8, k8⟩ => ?_
  subst e8
  refine mwalk none0 ?_
  refine (lives_ok _).mono fun r H9 hn9 ⟨e9, e9'⟩ => ?_
  subst e9
  refine mwalk none0 ?_
  refine walk none0 ?_
  rfl
end Go.Abs

/- Chapter 03: paths that come in. -/
namespace Go.Abs
open Go.Proofs
set_option maxRecDepth 100000
set_option linter.unusedVariables false
theorem txts_of : ∀ {n : Nat} {c : List AV}, c.length = n → (∀ i, i < n → ∃ x, (c.drop i).take 1 = [.str x]) → ∃ l : List Txt, l.length = n ∧ c = strs l
  | 0, c, hl, _ => ⟨[], rfl, List.eq_nil_of_length_eq_zero hl⟩
  | n + 1, [], hl, _ => by simp at hl
  | n + 1, a :: c, hl, h => by
    obtain ⟨x, hx⟩ := h 0 (by omega)
    simp at hx
    obtain ⟨l, hl', e⟩ := txts_of (n := n) (c := c) (by simpa using hl) fun i hi => by
      obtain ⟨y, hy⟩ := h (i + 1) (by omega)
      exact ⟨y, by simpa using hy⟩
    exact ⟨x :: l, by simp [hl'], by rw [hx, e]; rfl⟩
theorem strs_of {H : Heap} {n : Nat} {v : AV} (h : Pic Try.prog H (n + 2) 26 [v]) : ∃ l : List Txt, Ss H v l ∧ l.length ≤ maxLen := by
  obtain ⟨len, c, h1, h2, h3, h4⟩ := pic_slice (s := 1) Try.underlying26 (by kernel_rfl) h
  obtain ⟨l, hl, e⟩ := txts_of (n := len) (c := c) (by have := h1.len; omega) fun i hi => by
    have := h4 i hi
    rw [Nat.mul_one] at this
    obtain ⟨x, hx, _⟩ := pic_str Try.underlying9 this
    exact ⟨x, hx⟩
  subst e
  exact ⟨l, by unfold Ss; rw [hl]; exact h1, by omega⟩
theorem path_of {H : Heap} {n : Nat} {a : AV} (h : PicV Try.prog H (n + 3) 28 a) : ∃ x d v l, a = .agg [.bool x, .bool d, v] ∧ Ss H v l := by
  unfold PicV at h
  simp only [Try.underlying28] at h
  obtain ⟨cs, rfl, h⟩ := h
  unfold Pic at h
  simp only [Try.underlying28] at h
  obtain ⟨hl, hf⟩ := h
  have c4 : Try.prog.cellsOf 4 = 1 := by kernel_rfl
  have c26 : Try.prog.cellsOf 26 = 1 := by kernel_rfl
  have c28 : Try.prog.cellsOf 28 = 3 := by kernel_rfl
  rw [c28] at hl
  match cs, hl with
  | [a, b, c], _ =>
    simp [c4, c26] at hf
    obtain ⟨h0, h1, h2⟩ := hf
    obtain ⟨x, e0⟩ := pic_bool Try.underlying4 h0
    obtain ⟨d, e1⟩ := pic_bool Try.underlying4 h1
    obtain ⟨l, hl, _⟩ := strs_of h2
    simp at e0 e1
    subst e0; subst e1
    exact ⟨x, d, c, l, rfl, hl⟩
end Go.Abs

/- Chapter 03: PathJoins: with the paths that come in. -/
namespace Go.Abs
set_option linter.unusedVariables false
end Go.Abs

/- Chapter 03: Show and Up, walked. -/
namespace Go.Abs
open Go.Proofs
set_option maxRecDepth 100000
set_option linter.unusedVariables false
set_option linter.unusedSimpArgs false

theorem joinS_ok {H : Heap} {v : AV} {l : List Txt} (h : Ss H v l) (hL : l.length ≤ 100000) (hJ : (Lib.join l [47]).length ≤ 1000000) : Cl Try.prog pr03 35 [v, .str [47]] H fun r H' => r = .str (Lib.join l [47]) ∧ H' = H := by
  refine Cl.prim (v := .str (Lib.join l [47])) (H' := H) (g := fun args H => match joinAV args H with | some v => some (v, H) | none => none) rfl ?_ ⟨rfl, rfl⟩
  have : joinAV [v, .str [47]] H = some (.str (Lib.join l [47])) := by
    obtain ⟨a, cap, ex, rfl, hc, hex⟩ := h.form
    unfold joinAV
    simp only []
    by_cases h0 : l.length = 0
    · rw [if_pos h0, List.eq_nil_of_length_eq_zero h0]; rfl
    · rw [if_neg h0]
      obtain ⟨b, o, c, t, w, m, rfl, h1, h2, h3, h4⟩ := Sl.at h (by omega)
      simp only [h2]
      rw [if_pos ⟨by omega, hc, hL⟩]
      rw [Nat.mul_one] at h4
      rw [h4]
      unfold strs
      rw [unstr_map]
      simp only []
      rw [if_pos (by omega)]
  simp only [this]
def showS (a d : Bool) (l : List Txt) : Txt := (if a then [47] else []) ++ (Lib.join l [47] ++ if d = true ∧ l ≠ [] then [47] else [])
theorem show_ok {H : Heap} {a d : Bool} {v : AV} {l : List Txt} (h : Ss H v l) (hL : l.length ≤ 100000) (hJ : (Lib.join l [47]).length ≤ 1000000) : Cl Try.prog pr03 20 [.agg [.bool a, .bool d, v]] H fun r H' => r = .str (showS a d l) ∧ Keep H H' := by
  obtain ⟨va, cap, ex, rfl, hc, hex⟩ := h.form
  obtain ⟨L, hLL⟩ : ∃ L, l.length = L := ⟨_, rfl⟩
  rw [hLL] at h ⊢
  have kk : Keep H (H.push (.cells [.bool a, .bool d, .slice va L cap ex] 28 true false)) := Upd.rfl.push _
  refine Cl.enter Try.func20 rfl rfl Try.ntmps20 (by simp) ?_
  refine walk none0 ?_
  refine (joinS_ok (h.kept kk) hL hJ).mono fun r H1 _ ⟨e1, e2⟩ => ?_
  subst e1; subst e2
  unfold showS
  generalize Lib.join l [47] = j at *
  cases a with
  | true =>
    refine walk none0 ?_
    cases d with
    | true =>
      by_cases h0 : L = 0
      · have hl0 : l = [] := List.eq_nil_of_length_eq_zero (by omega)
        have h1 : ¬ 0 < L := by omega
        refine walk h1 ?_
        exact ⟨by simp [hl0], kk⟩
      · have hl0 : ¬ l = [] := by rintro rfl; exact h0 (by rw [← hLL]; rfl)
        have h1 : 0 < L := by omega
        refine walk h1 ?_
        exact ⟨by simp [hl0], kk⟩
    | false =>
      refine walk none0 ?_
      exact ⟨by simp, kk⟩
  | false =>
    refine walk none0 ?_
    cases d with
    | true =>
      by_cases h0 : L = 0
      · have hl0 : l = [] := List.eq_nil_of_length_eq_zero (by omega)
        have h1 : ¬ 0 < L := by omega
        refine walk h1 ?_
        exact ⟨by simp [hl0], kk⟩
      · have hl0 : ¬ l = [] := by rintro rfl; exact h0 (by rw [← hLL]; rfl)
        have h1 : 0 < L := by omega
        refine walk h1 ?_
        exact ⟨by simp [hl0], kk⟩
    | false =>
      refine walk none0 ?_
      exact ⟨by simp, kk⟩
theorem inter_cons {sep : Txt} (x y : Txt) (l : List Txt) : Lib.join (x :: y :: l) sep = x ++ (sep ++ Lib.join (y :: l) sep) := by
  simp [Lib.join, List.intercalate, List.intersperse]
theorem join_snoc {sep : Txt} : ∀ {l : List Txt} {x : Txt}, l ≠ [] → Lib.join (l ++ [x]) sep = Lib.join l sep ++ (sep ++ x)
  | [], x, h => absurd rfl h
  | [y], x, _ => by simp [Lib.join, List.intercalate, List.intersperse]
  | y :: z :: l, x, _ => by
    have := join_snoc (sep := sep) (l := z :: l) (x := x) (by simp)
    simp only [List.cons_append] at this ⊢
    rw [inter_cons, inter_cons, this]
    simp
theorem join_take_le {sep : Txt} : ∀ (l : List Txt) (i : Nat), (Lib.join (l.take i) sep).length ≤ (Lib.join l sep).length
  | [], i => by simp
  | [x], i => by cases i <;> simp [Lib.join, List.intercalate, List.intersperse]
  | x :: y :: l, 0 => by simp [Lib.join, List.intercalate, List.intersperse]
  | x :: y :: l, 1 => by rw [inter_cons]; simp [Lib.join, List.intercalate, List.intersperse]
  | x :: y :: l, i + 2 => by
    have := join_take_le (sep := sep) (y :: l) (i + 1)
    simp only [List.take_succ_cons] at this ⊢
    rw [inter_cons, inter_cons]
    simp only [List.length_append]
    omega
theorem refShow_ok {H : Heap} {a d : Bool} {v : AV} {l : List Txt} (h : Ss H v l) (hL : l.length ≤ 100000) (hJ : (Lib.join l [47]).length ≤ 1000000) : Cl Try.prog pr03 21 [.agg [.bool a, .bool d, v]] H fun r H' => r = .str (showS a d l) ∧ Keep H H' := by
  obtain ⟨va, cap, ex, rfl, hc, hex⟩ := h.form
  obtain ⟨L, hLL⟩ : ∃ L, l.length = L := ⟨_, rfl⟩
  rw [hLL] at h ⊢
  have kk : Keep H (H.push (.cells [.bool a, .bool d, .slice va L cap ex] 28 true false)) := Upd.rfl.push _
  have gp : (H.push (.cells [.bool a, .bool d, .slice va L cap ex] 28 true false)).get H.next = some (.cells [.bool a, .bool d, .slice va L cap ex] 28 true false) := by simp (disch := omega) [ineg]
  have h' := h.kept kk
  refine Cl.enter Try.func21 rfl rfl Try.ntmps21 (by simp) ?_
  refine walk none0 ?_
  generalize H.push (.cells [.bool a, .bool d, .slice va L cap ex] 28 true false) = H1 at *
  generalize H.next = p at *
  cases a with
  | true =>
    refine walk none0 ?_
    refine Wq.loop (fun k e H' => ∃ i : Nat, i ≤ L ∧ k = L - i ∧ H' = H1 ∧ e 1 = .ptr (some (p, 0)) ∧ e 3 = .str (([47] : Txt) ++ Lib.join (l.take i) [47]) ∧ e 4 = .int .i64 i) L ?_ ?_
    · exact ⟨0, by omega, by omega, rfl, by simp, by simp [Lib.join, List.intercalate, List.intersperse], by simp⟩
    · rintro k e H' ⟨i, hi, rfl, rfl, g1, g3, g4⟩
      by_cases hlt : i < L
      · obtain ⟨x, hx⟩ := get_lt' (l := l) (i := i) (by omega)
        obtain ⟨b, o, c, t, w, mk, rfl, _, hb1, hb2, hb3, hb4⟩ := str_at h' hx
        have hjm := join_take_le (sep := [47]) l (i + 1)
        by_cases h0 : i = 0
        · subst h0
          simp only [Nat.add_zero] at hb3 hb4
          simp at g4
          have hxt : Lib.join (l.take (0 + 1)) [47] = x := by rw [List.take_add_one, hx]; simp [Lib.join, List.intercalate, List.intersperse]
          rw [hxt] at hjm
          simp only [List.take_zero, Lib.join_nil, List.append_nil] at g3
          refine walk (both g1 (both g3 (both g4 (both gp (both hlt (both hb2 (both hb3 hb4))))))) ?_
          exact Roundq.normal (L - (0 + 1)) (by omega) ⟨0 + 1, by omega, rfl, rfl, by simp [g1], by simp [hxt], by simp⟩
        · have h1 : (0 : Int) < i := by omega
          have hne : l.take i ≠ [] := by
            intro e; have := congrArg List.length e; rw [List.length_take, List.length_nil] at this; omega
          have hxt : Lib.join (l.take (i + 1)) [47] = Lib.join (l.take i) [47] ++ ([47] ++ x) := by rw [List.take_add_one, hx]; exact join_snoc hne
          have hjm2 := hjm
          rw [hxt] at hjm2
          simp only [List.length_append, List.length_cons, List.length_nil] at hjm2
          refine walk (both g1 (both g3 (both g4 (both gp (both hlt (both hb2 (both hb3 (both hb4 h1)))))))) ?_
          exact Roundq.normal (L - (i + 1)) (by omega) ⟨i + 1, by omega, rfl, rfl, by simp [g1], by simp [hxt], by simp⟩
      · have hti : l.take i = l := List.take_of_length_le (by omega)
        rw [hti] at g3
        unfold showS
        generalize Lib.join l [47] = j at *
        cases d with
        | true =>
          by_cases h0 : L = 0
          · have hl0 : l = [] := List.eq_nil_of_length_eq_zero (by omega)
            have h1 : ¬ 0 < L := by omega
            refine walk (both g1 (both g3 (both g4 (both gp (both hlt h1))))) ?_
            exact ⟨by simp [hl0], kk⟩
          · have hl0 : ¬ l = [] := by rintro rfl; exact h0 (by rw [← hLL]; rfl)
            have h1 : 0 < L := by omega
            refine walk (both g1 (both g3 (both g4 (both gp (both hlt h1))))) ?_
            exact ⟨by simp [hl0], kk⟩
        | false =>
          refine walk (both g1 (both g3 (both g4 (both gp hlt)))) ?_
          exact ⟨by simp, kk⟩
  | false =>
    refine walk none0 ?_
    refine Wq.loop (fun k e H' => ∃ i : Nat, i ≤ L ∧ k = L - i ∧ H' = H1 ∧ e 1 = .ptr (some (p, 0)) ∧ e 3 = .str (([] : Txt) ++ Lib.join (l.take i) [47]) ∧ e 4 = .int .i64 i) L ?_ ?_
    · exact ⟨0, by omega, by omega, rfl, by simp, by simp [Lib.join, List.intercalate, List.intersperse], by simp⟩
    · rintro k e H' ⟨i, hi, rfl, rfl, g1, g3, g4⟩
      by_cases hlt : i < L
      · obtain ⟨x, hx⟩ := get_lt' (l := l) (i := i) (by omega)
        obtain ⟨b, o, c, t, w, mk, rfl, _, hb1, hb2, hb3, hb4⟩ := str_at h' hx
        have hjm := join_take_le (sep := [47]) l (i + 1)
        by_cases h0 : i = 0
        · subst h0
          simp only [Nat.add_zero] at hb3 hb4
          simp at g4
          have hxt : Lib.join (l.take (0 + 1)) [47] = x := by rw [List.take_add_one, hx]; simp [Lib.join, List.intercalate, List.intersperse]
          rw [hxt] at hjm
          simp only [List.take_zero, Lib.join_nil, List.append_nil] at g3
          refine walk (both g1 (both g3 (both g4 (both gp (both hlt (both hb2 (both hb3 hb4))))))) ?_
          exact Roundq.normal (L - (0 + 1)) (by omega) ⟨0 + 1, by omega, rfl, rfl, by simp [g1], by simp [hxt], by simp⟩
        · have h1 : (0 : Int) < i := by omega
          have hne : l.take i ≠ [] := by
            intro e; have := congrArg List.length e; rw [List.length_take, List.length_nil] at this; omega
          have hxt : Lib.join (l.take (i + 1)) [47] = Lib.join (l.take i) [47] ++ ([47] ++ x) := by rw [List.take_add_one, hx]; exact join_snoc hne
          have hjm2 := hjm
          rw [hxt] at hjm2
          simp only [List.length_append, List.length_cons, List.length_nil] at hjm2
          refine walk (both g1 (both g3 (both g4 (both gp (both hlt (both hb2 (both hb3 (both hb4 h1)))))))) ?_
          exact Roundq.normal (L - (i + 1)) (by omega) ⟨i + 1, by omega, rfl, rfl, by simp [g1], by simp [hxt], by simp⟩
      · have hti : l.take i = l := List.take_of_length_le (by omega)
        rw [hti] at g3
        unfold showS
        generalize Lib.join l [47] = j at *
        cases d with
        | true =>
          by_cases h0 : L = 0
          · have hl0 : l = [] := List.eq_nil_of_length_eq_zero (by omega)
            have h1 : ¬ 0 < L := by omega
            refine walk (both g1 (both g3 (both g4 (both gp (both hlt h1))))) ?_
            exact ⟨by simp [hl0], kk⟩
          · have hl0 : ¬ l = [] := by rintro rfl; exact h0 (by rw [← hLL]; rfl)
            have h1 : 0 < L := by omega
            refine walk (both g1 (both g3 (both g4 (both gp (both hlt h1))))) ?_
            exact ⟨by simp [hl0], kk⟩
        | false =>
          refine walk (both g1 (both g3 (both g4 (both gp hlt)))) ?_
          exact ⟨by simp, kk⟩
end Go.Abs

/- Chapter 03: Up, PathShows, walked. -/
namespace Go.Abs
open Go.Proofs
set_option maxRecDepth 100000
set_option linter.unusedVariables false
set_option linter.unusedSimpArgs false

theorem idx_ok {H : Heap} {v : AV} {l : List Txt} {s : Txt} (h : Ss H v l) (hL : l.length ≤ 100000) : Cl Try.prog pr03 44 [v, .str s] H fun w H' => H' = H ∧ ∃ z : Int, w = .int .i64 z ∧ (0 ≤ z ↔ s ∈ l) := by
  obtain ⟨a, cap, ex, rfl, hc, hex⟩ := h.form
  refine Cl.enter Try.func44 rfl rfl Try.ntmps44 (by simp) ?_
  refine walk none0 ?_
  refine Wq.loop (fun k e H' => ∃ i : Nat, i ≤ l.length ∧ k = l.length - i ∧ H' = H ∧ e 0 = .slice a l.length cap ex ∧ e 1 = .str s ∧ e 7 = .int .i64 l.length ∧ e 8 = .int .i64 i ∧ ∀ (k : Nat) (y : Txt), k < i → l[k]? = some y → y ≠ s) l.length ?_ ?_
  · exact ⟨0, by omega, by omega, rfl, by simp, by simp, by simp, by simp, fun k y hk => by omega⟩
  · rintro k e H' ⟨i, hi, rfl, rfl, g0, g1, g7, g8, hlo⟩
    by_cases hlt : i < l.length
    · obtain ⟨x, hx⟩ := get_lt' hlt
      obtain ⟨b, o, c, t, w, mk, rfl, _, hb1, hb2, hb3, hb4⟩ := str_at h hx
      by_cases hp : s = x
      · subst hp
        refine walk (both g0 (both g1 (both g7 (both g8 (both hlt (both hb2 (both hb3 hb4))))))) ?_
        exact ⟨rfl, _, rfl, by simp; exact List.mem_of_getElem? hx⟩
      · refine walk (both g0 (both g1 (both g7 (both g8 (both hlt (both hb2 (both hb3 (both hb4 hp)))))))) ?_
        refine Roundq.normal (l.length - (i + 1)) (by omega) ⟨i + 1, by omega, rfl, rfl, by simp [g0], by simp [g1], by simp [g7], by simp, fun k y hk hy => ?_⟩
        rcases Nat.lt_or_ge k i with h' | h'
        · exact hlo k y h' hy
        · obtain rfl : k = i := by omega
          rw [hx] at hy; cases hy; exact fun e => hp e.symm
    · refine walk (both g0 (both g1 (both g7 (both g8 hlt)))) ?_
      refine ⟨rfl, _, rfl, ?_⟩
      constructor
      · intro h; omega
      · intro hm
        obtain ⟨k, hk⟩ := List.mem_iff_getElem?.1 hm
        exact absurd rfl (hlo k s (by have := (List.getElem?_eq_some_iff.1 hk).1; omega) hk)
theorem contains_ok {H : Heap} {v : AV} {l : List Txt} {s : Txt} (h : Ss H v l) (hL : l.length ≤ 100000) : Cl Try.prog pr03 36 [v, .str s] H fun w H' => w = .bool (decide (s ∈ l)) ∧ H' = H := by
  have hv := h.form
  obtain ⟨a, cap, ex, rfl, hc, hex⟩ := hv
  refine Cl.enter Try.func36 rfl rfl Try.ntmps36 (by simp) ?_
  refine walk none0 ?_
  refine (idx_ok h hL).mono fun w H1 _ ⟨e0, z, e1, hz⟩ => ?_
  subst e0; subst e1
  refine walk none0 ?_
  exact ⟨by simp [hz], rfl⟩
theorem up_ok {H : Heap} {a d : Bool} {v : AV} {l : List Txt} (h : Ss H v l) (hL : l.length ≤ 100000) : Cl Try.prog pr03 22 [.agg [.bool a, .bool d, v]] H fun r H' => r = .bool (decide ([46, 46] ∈ l)) ∧ Keep H H' := by
  obtain ⟨va, cap, ex, rfl, hc, hex⟩ := h.form
  have kk : Keep H (H.push (.cells [.bool a, .bool d, .slice va l.length cap ex] 28 true false)) := Upd.rfl.push _
  refine Cl.enter Try.func22 rfl rfl Try.ntmps22 (by simp) ?_
  refine walk none0 ?_
  refine (contains_ok (h.kept kk) hL).mono fun w H1 _ ⟨e1, e0⟩ => ?_
  subst e0; subst e1
  refine walk none0 ?_
  exact ⟨rfl, kk⟩
theorem refUp_ok {H : Heap} {a d : Bool} {v : AV} {l : List Txt} (h : Ss H v l) (hL : l.length ≤ 100000) : Cl Try.prog pr03 23 [.agg [.bool a, .bool d, v]] H fun r H' => r = .bool (decide ([46, 46] ∈ l)) ∧ Keep H H' := by
  obtain ⟨va, cap, ex, rfl, hc, hex⟩ := h.form
  have kk : Keep H (H.push (.cells [.bool a, .bool d, .slice va l.length cap ex] 28 true false)) := Upd.rfl.push _
  have gp : (H.push (.cells [.bool a, .bool d, .slice va l.length cap ex] 28 true false)).get H.next = some (.cells [.bool a, .bool d, .slice va l.length cap ex] 28 true false) := by simp (disch := omega) [ineg]
  have h' := h.kept kk
  refine Cl.enter Try.func23 rfl rfl Try.ntmps23 (by simp) ?_
  refine walk none0 ?_
  generalize H.push (.cells [.bool a, .bool d, .slice va l.length cap ex] 28 true false) = H1 at *
  generalize H.next = p at *
  refine Wq.loop (fun k e H' => ∃ i : Nat, i ≤ l.length ∧ k = l.length - i ∧ H' = H1 ∧ e 1 = .ptr (some (p, 0)) ∧ e 3 = .int .i64 i ∧ ∀ (k : Nat) (y : Txt), k < i → l[k]? = some y → y ≠ [46, 46]) l.length ?_ ?_
  · exact ⟨0, by omega, by omega, rfl, by simp, by simp, fun k y hk => by omega⟩
  · rintro k e H' ⟨i, hi, rfl, rfl, g1, g3, hlo⟩
    by_cases hlt : i < l.length
    · obtain ⟨x, hx⟩ := get_lt' hlt
      obtain ⟨b, o, c, t, w, mk, rfl, _, hb1, hb2, hb3, hb4⟩ := str_at h' hx
      by_cases hp : x = [46, 46]
      · subst hp
        refine walk (both g1 (both g3 (both gp (both hlt (both hb2 (both hb3 hb4)))))) ?_
        exact ⟨by simp [List.mem_of_getElem? hx], kk⟩
      · refine walk (both g1 (both g3 (both gp (both hlt (both hb2 (both hb3 (both hb4 hp))))))) ?_
        refine Roundq.normal (l.length - (i + 1)) (by omega) ⟨i + 1, by omega, rfl, rfl, by simp [g1], by simp, fun k y hk hy => ?_⟩
        rcases Nat.lt_or_ge k i with h' | h'
        · exact hlo k y h' hy
        · obtain rfl : k = i := by omega
          rw [hx] at hy; cases hy; exact hp
    · refine walk (both g1 (both g3 (both gp hlt))) ?_
      have hno : [46, 46] ∉ l := by
        intro hm
        obtain ⟨k, hk⟩ := List.mem_iff_getElem?.1 hm
        exact hlo k _ (by have := (List.getElem?_eq_some_iff.1 hk).1; omega) hk rfl
      exact ⟨by simp [hno], kk⟩
end Go.Abs

/- Chapter 03: PathShows, walked. -/
namespace Go.Abs
open Go.Proofs
set_option maxRecDepth 100000
set_option linter.unusedVariables false
set_option linter.unusedSimpArgs false

theorem join_len : ∀ {l : List Txt}, (∀ x ∈ l, x.length ≤ 100) → (Lib.join l [47]).length ≤ l.length * 101
  | [], _ => by simp [Lib.join, List.intercalate, List.intersperse]
  | [x], h => by have := h x (by simp); simp [Lib.join, List.intercalate, List.intersperse]; omega
  | x :: y :: l, h => by
    have h1 := join_len (l := y :: l) (fun z hz => h z (by simp at hz ⊢; exact .inr hz))
    have h2 := h x (by simp)
    rw [inter_cons]
    simp only [List.length_append, List.length_cons, List.length_nil] at h1 ⊢
    omega
theorem pathShows_main {H : Heap} {a d : Bool} {v : AV} {l : List Txt} (h : Ss H v l) : Cl Try.prog pr03 7 [.agg [.bool a, .bool d, v]] H fun r _ => r = .bool true := by
  have hv := h.form
  obtain ⟨va, cap, ex, rfl, hc, hex⟩ := hv
  refine Cl.enter Try.func7 rfl rfl Try.ntmps7 (by simp) ?_
  refine walk none0 ?_
  refine (short_ok (h.kept (Upd.rfl.push _))).mono fun r H1 hn1 ⟨w, e1, f1⟩ => ?_
  subst e1
  have hL := shortL_len l
  have hj := join_len (shortL_txt l)
  generalize shortL l = s at *
  obtain ⟨wa, wc, wx, rfl, _⟩ := f1.own.form
  simp at hn1
  have gp : H1.get H.next = some (.cells [.bool a, .bool d, .slice va l.length cap ex] 28 true false) := by
    rw [f1.keep.get (by simp)]; simp (disch := omega) [ineg]
  refine walk gp ?_
  have s2 : Ss (H1.set H.next (.cells [.bool a, .bool d, .slice wa s.length wc wx] 28 true false)) (.slice wa s.length wc wx) s := Sl.set f1.own.sl _ (fun e => by have := f1.new _ e; simp at this; omega)
  have g2 : (H1.set H.next (.cells [.bool a, .bool d, .slice wa s.length wc wx] 28 true false)).get H.next = some (.cells [.bool a, .bool d, .slice wa s.length wc wx] 28 true false) := Heap.get_set_same _ _ _
  have n2 : H.next < (H1.set H.next (.cells [.bool a, .bool d, .slice wa s.length wc wx] 28 true false)).next := by simp; omega
  generalize H1.set H.next (.cells [.bool a, .bool d, .slice wa s.length wc wx] 28 true false) = H2 at *
  generalize H.next = p at *
  clear f1 gp hn1
  refine Wq.regionM [(0, 0), (1, 0), (2, 0), (3, 3), (4, 0), (5, 0), (6, 0), (7, 0), (8, 0), (9, 0), (10, 3), (11, 0), (12, 0), (13, 0), (14, 0), (15, 0), (16, 0), (17, 0)] (by kernel_rfl) ?_
  refine mwalk g2 ?_
  refine (own_ok s2 (by omega)).mono fun r H3 hn3 ⟨w3, e3, f3⟩ => ?_
  subst e3
  have g3 := (f3.keep.get n2).trans g2
  refine mwalk (both g2 g3) ?_
  refine (show_ok f3.own.sl (by omega) (by omega)).mono fun r H4 hn4 ⟨e4, k4⟩ => ?_
  subst e4
  have g4 := (k4.get (by omega)).trans g3
  refine mwalk (both g2 (both g3 g4)) ?_
  have k24 := f3.keep.then k4
  refine (refShow_ok (s2.kept k24) (by omega) (by omega)).mono fun r H5 hn5 ⟨e5, k5⟩ => ?_
  subst e5
  have g5 := (k5.get (by omega)).trans g4
  generalize showS a d s = sh at *
  refine mwalk (both g2 (both g3 (both g4 g5))) ?_
  have k25 := k24.then k5
  refine (own_ok (s2.kept k25) (by omega)).mono fun r H6 hn6 ⟨w6, e6, f6⟩ => ?_
  subst e6
  have g6 := (f6.keep.get (by omega)).trans g5
  refine mwalk (both g2 (both g3 (both g4 (both g5 g6)))) ?_
  refine (up_ok f6.own.sl (by omega)).mono fun r H7 hn7 ⟨e7, k7⟩ => ?_
  subst e7
  have g7 := (k7.get (by omega)).trans g6
  refine mwalk (both g2 (both g3 (both g4 (both g5 (both g6 g7))))) ?_
  refine (refUp_ok (((s2.kept k25).kept f6.keep).kept k7) (by omega)).mono fun r H8 hn8 ⟨e8, k8⟩ => ?_
  subst e8
  refine mwalk none0 ?_
  refine (lives_ok _).mono fun r H9 hn9 ⟨e9, e9'⟩ => ?_
  subst e9
  refine mwalk none0 ?_
  refine walk none0 ?_
  rfl
end Go.Abs
