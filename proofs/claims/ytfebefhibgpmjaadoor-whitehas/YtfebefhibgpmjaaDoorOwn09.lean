/- Texts on this program, joined. -/
import Derived.Test.YtfebefhibgpmjaaDoorOwn07
import Derived.Test.YtfebefhibgpmjaaDoorKit08
import Derived.Test.YtfebefhibgpmjaaDoorKit04

/- Chapter 02: lists that come in; what a whitelist is; WhiteHas. -/
namespace Go.Abs
open Go.Proofs
set_option maxRecDepth 100000
set_option linter.unusedVariables false
set_option linter.unusedSimpArgs false

theorem own29_ok {H : Heap} {a : Bool} {v : AV} {l : List Int} (h : Is H v l) (hL : l.length ≤ 100000) : Cl Tryd.prog pr02 29 [.agg [.bool a, v]] H fun r H' => ∃ w, r = .agg [.bool a, w] ∧ FreshG H H' 3 1 w l.length (ints l) := by
  obtain ⟨va, cap, ex, rfl, hc, hex⟩ := h.form
  refine Cl.enter Tryd.func29 rfl rfl Tryd.ntmps29 (by simp) ?_
  refine walk none0 ?_
  refine Wq.regionM [(2, 0), (3, 0), (4, 0), (5, 0), (0, 0), (1, 2), (6, 0), (7, 0)] (by kernel_rfl) ?_
  refine mwalk none0 ?_
  refine Dq.appendG (own := (.empty _)) (new := ints l) (q := l.length) rfl met_none (by simp (disch := omega) [-getElem?_pos, wrapI64, tdivN, tmodN, ipos, ineg, dpos, dneg, slc_l, slc_h, slc_lh, slc_hm, slc_lhm, slc_0, slcR_some, slcR_none, cutS_ok, cutA_ok, byteAt_ok]; first | done | (repeat' (first | rfl | apply And.intro))) ⟨_, rfl, by simp; first | done | (repeat' (first | rfl | apply And.intro))⟩ rfl (by kernel_rfl) (by kernel_rfl) ((Sl.push (Sl.push (Sl.push h _) _) _).src') (by simp) (ints_one l) (by omega) (by omega) fun w1 H1 o1 b1 s1 => ?_
  have hn1 := b1.1
  simp at hn1
  have hg1 : H1.get H.next = some (.cells [.bool a, .slice va l.length cap ex] 24 true false) := by
    rw [b1.2.2 H.next (by simp <;> omega) (by simp [slBlock] <;> omega)]
    simp (disch := omega) [ineg]
  have hg2 : H1.get (H.next + 1) = some (.cells [.bool false, .slice none 0 0 none] 24 true false) := by
    rw [b1.2.2 (H.next + 1) (by simp <;> omega) (by simp [slBlock] <;> omega)]
    simp (disch := omega) [ineg]
  rw [Nat.zero_add, List.nil_append] at o1
  have f1 : FreshG H H1 3 1 w1 l.length (ints l) := (FreshG.made (H0 := H) (cs := []) (n := 0) (elem := 3) (s := 1) (((Upd.rfl.push _).push _).push _) (by simp) (b := H.next + 1 + 1) (by omega) (by simp) (by simp)).app o1 b1 s1
  obtain ⟨wa1, wc1, wx1, rfl, hwc, hwx⟩ := o1.form
  refine mwalk (both hg1 hg2) ?_
  refine walk none0 ?_
  exact ⟨_, rfl, f1.put _ (by omega) (by omega) (by rcases s1 with e | e <;> rw [e] <;> simp [slBlock] <;> omega)⟩
theorem short9_ok {H : Heap} {a : Bool} {v : AV} {l : List Int} (h : Is H v l) : Cl Tryd.prog pr02 9 [.agg [.bool a, v]] H fun r H' => ∃ w, r = .agg [.bool a, w] ∧ FreshG H H' 3 1 w (l.take 200).length (ints (l.take 200)) := by
  obtain ⟨va, cap, ex, rfl, hc, hex⟩ := h.form
  refine Cl.enter Tryd.func9 rfl rfl Tryd.ntmps9 (by simp) ?_
  by_cases h1 : 200 < l.length
  · have hl2 : (l.take 200).length = 200 := by simp; omega
    obtain ⟨b, o, rfl⟩ : ∃ b o, va = some (b, o) := by
      obtain ⟨b, o, c, t, w, m, e, _⟩ := Sl.at h (by omega)
      exact ⟨b, o, e⟩
    have hcap : (200 : Int) ≤ cap := by omega
    have hcapN : 200 ≤ cap := by omega
    rw [hl2]
    refine walk (both h1 (both hcap (both hcapN hex))) ?_
    have kB : Keep H (((H.push (.cells [.bool a, .slice (some (b, o)) l.length cap ex] 24 true false)).push (.cells [.bool false, .slice none 0 0 none] 24 true false)).set H.next (.cells [.bool a, .slice (some (b, o)) 200 cap ex] 24 true false)) := ((Upd.rfl.push _).push _).set _ (by simp; omega) (by omega)
    have hct := (h.cut (n := 200) (by omega) hc hex).kept kB
    have ho := own29_ok (a := a) hct (by omega)
    rw [hl2] at ho
    refine ho.mono fun v H1 _ ⟨w, e1, f1⟩ => ?_
    subst e1
    have gz := (f1.keep.get (b := H.next + 1) (by simp)).trans (show (((H.push (.cells [.bool a, .slice (some (b, o)) l.length cap ex] 24 true false)).push (.cells [.bool false, .slice none 0 0 none] 24 true false)).set H.next (.cells [.bool a, .slice (some (b, o)) 200 cap ex] 24 true false)).get (H.next + 1) = some (.cells [.bool false, .slice none 0 0 none] 24 true false) by simp (disch := omega) [ineg])
    have f2 := f1.after kB
    have hn := f1.keep.next
    simp at hn
    obtain ⟨wa1, wc1, wx1, rfl, hwc, hwx⟩ := f1.own.form
    have hnew := f1.new
    simp at hnew
    refine walk gz ?_
    exact ⟨_, rfl, f2.put _ (by omega) (by omega) (fun e => by have := hnew _ e; omega)⟩
  · rw [List.take_of_length_le (by omega)]
    refine walk h1 ?_
    have kB : Keep H ((H.push (.cells [.bool a, .slice va l.length cap ex] 24 true false)).push (.cells [.bool false, .slice none 0 0 none] 24 true false)) := (Upd.rfl.push _).push _
    refine (own29_ok (h.kept kB) (by omega)).mono fun v H1 _ ⟨w, e1, f1⟩ => ?_
    subst e1
    have gz := (f1.keep.get (b := H.next + 1) (by simp)).trans (show ((H.push (.cells [.bool a, .slice va l.length cap ex] 24 true false)).push (.cells [.bool false, .slice none 0 0 none] 24 true false)).get (H.next + 1) = some (.cells [.bool false, .slice none 0 0 none] 24 true false) by simp (disch := omega) [ineg])
    have f2 := f1.after kB
    have hn := f1.keep.next
    simp at hn
    obtain ⟨wa1, wc1, wx1, rfl, hwc, hwx⟩ := f1.own.form
    have hnew := f1.new
    simp at hnew
    refine walk gz ?_
    exact ⟨_, rfl, f2.put _ (by omega) (by omega) (fun e => by have := hnew _ e; omega)⟩
/-- A list that can be a whitelist's. -/
def okAt (l : List Int) (i : Nat) : Prop := ∀ c, l[i]? = some c → 0 ≤ c ∧ (0 < i → ∀ b, l[i - 1]? = some b → b < c)
def okL (l : List Int) : Prop := ∀ i < l.length, okAt l i
open Classical in
noncomputable def canP (a : Bool) (l : List Int) : Bool := if a then decide (l = []) else decide (okL l ∧ l.length ≤ 32)
theorem can34_ok {H : Heap} {a : Bool} {v : AV} {l : List Int} (h : Is H v l) (hL : l.length ≤ 100000) : Cl Tryd.prog pr02 34 [.agg [.bool a, v]] H fun r H' => Keep H H' ∧ r = .bool (canP a l) := by
  obtain ⟨va, cap, ex, rfl, hc, hex⟩ := h.form
  have kB : Keep H (H.push (.cells [.bool a, .slice va l.length cap ex] 24 true false)) := Upd.rfl.push _
  unfold canP
  refine Cl.enter Tryd.func34 rfl rfl Tryd.ntmps34 (by simp) ?_
  cases a with
  | true =>
    by_cases h0 : l = []
    · subst h0
      refine walk none0 ?_
      exact ⟨kB, by simp⟩
    · have hl : l.length ≠ 0 := fun e => h0 (List.eq_nil_of_length_eq_zero e)
      refine walk none0 ?_
      exact ⟨kB, by simp [h0]⟩
  | false =>
    have gB : (H.push (.cells [.bool false, .slice va l.length cap ex] 24 true false)).get H.next = some (.cells [.bool false, .slice va l.length cap ex] 24 true false) := by simp
    have hB := h.kept kB
    refine walk none0 ?_
    generalize H.push (.cells [.bool false, .slice va l.length cap ex] 24 true false) = H1 at *
    refine Wq.loop (fun m e H' => ∃ i : Nat, i ≤ l.length ∧ m = l.length - i ∧ H' = H1 ∧ e 1 = .ptr (some (H.next, 0)) ∧ e 12 = .slice va l.length cap ex ∧ e 13 = .int .i64 l.length ∧ e 14 = .int .i64 i ∧ ∀ j < i, okAt l j) l.length ?_ ?_
    · exact ⟨0, by omega, by omega, rfl, by simp, by simp, by simp, by simp, fun j hj => by omega⟩
    · rintro m e H' ⟨i, hi, rfl, rfl, g1, g12, g13, g14, hlo⟩
      by_cases hlt : i < l.length
      · obtain ⟨c, hcx⟩ := geti_lt hlt
        obtain ⟨b, o, cc, t, w, mk, rfl, _, hb1, hb2, hb3, hb4⟩ := int_at hB hcx
        by_cases hneg : c < 0
        · have hno : ¬ (okL l ∧ l.length ≤ 32) := fun hh => by have := (hh.1 i hlt c hcx).1; omega
          refine walk (both g1 (both g12 (both g13 (both g14 (both hlt (both hb2 (both hb3 (both hb4 (both hneg gB))))))))) ?_
          exact ⟨kB, by simp [hno]⟩
        · by_cases h0 : 0 < i
          · have h0I : 0 < (i : Int) := by omega
            obtain ⟨d, hdx⟩ := geti_lt (l := l) (i := i - 1) (by omega)
            obtain ⟨b', o', cc', t', w', mk', e', _, _, hb2', hb3', hb5⟩ := int_at hB hdx
            injection e' with e'; injection e' with e1 e2; subst e1; subst e2
            rw [hb2] at hb2'; injection hb2' with e'; injection e' with e1 e2 e4 e5; subst e1; subst e2; subst e4; subst e5
            have hiI : ((i : Int) - 1) = ((i - 1 : Nat) : Int) := by omega
            by_cases hle : c ≤ d
            · have hno : ¬ (okL l ∧ l.length ≤ 32) := fun hh => by have := (hh.1 i hlt c hcx).2 h0 d hdx; omega
              refine walk (both g1 (both g12 (both g13 (both g14 (both hlt (both hb2 (both hb3 (both hb4 (both hneg (both gB (both h0I (both hb3' (both hb5 hle))))))))))))) ?_
              exact ⟨kB, by simp [hno]⟩
            · have hok : okAt l i := fun c' hc' => by
                rw [hcx] at hc'; injection hc' with hc'; subst hc'
                exact ⟨by omega, fun _ b hb => by rw [hdx] at hb; injection hb with hb; subst hb; omega⟩
              refine walk (both g1 (both g12 (both g13 (both g14 (both hlt (both hb2 (both hb3 (both hb4 (both hneg (both gB (both h0I (both hb3' (both hb5 hle))))))))))))) ?_
              exact Roundq.normal (l.length - (i + 1)) (by omega) ⟨i + 1, by omega, rfl, rfl, by simp [g1], by simp [g12], by simp [g13], by simp, lt_step hlo hok⟩
          · have h0I : ¬ 0 < (i : Int) := by omega
            have hok : okAt l i := fun c' hc' => by
              rw [hcx] at hc'; injection hc' with hc'; subst hc'
              exact ⟨by omega, fun h => by omega⟩
            refine walk (both g1 (both g12 (both g13 (both g14 (both hlt (both hb2 (both hb3 (both hb4 (both hneg (both gB h0I)))))))))) ?_
            exact Roundq.normal (l.length - (i + 1)) (by omega) ⟨i + 1, by omega, rfl, rfl, by simp [g1], by simp [g12], by simp [g13], by simp, lt_step hlo hok⟩
      · obtain rfl : i = l.length := by omega
        have hok : okL l := hlo
        by_cases h32 : l.length ≤ 32
        · have h32I : (l.length : Int) ≤ 32 := by omega
          refine walk (both g1 (both g12 (both g13 (both g14 (both gB h32I))))) ?_
          exact ⟨kB, by simp [hok, h32]⟩
        · have h32I : ¬ (l.length : Int) ≤ 32 := by omega
          refine walk (both g1 (both g12 (both g13 (both g14 (both gB h32I))))) ?_
          exact ⟨kB, by simp [h32]⟩
theorem refCan15_ok {H : Heap} {a : Bool} {v : AV} {l : List Int} (h : Is H v l) (hL : l.length ≤ 100000) : Cl Tryd.prog pr02 15 [.agg [.bool a, v]] H fun r H' => Keep H H' ∧ r = .bool (canP a l) := by
  obtain ⟨va, cap, ex, rfl, hc, hex⟩ := h.form
  have kB : Keep H (H.push (.cells [.bool a, .slice va l.length cap ex] 24 true false)) := Upd.rfl.push _
  have gB : (H.push (.cells [.bool a, .slice va l.length cap ex] 24 true false)).get H.next = some (.cells [.bool a, .slice va l.length cap ex] 24 true false) := by simp
  have hB := h.kept kB
  unfold canP
  refine Cl.enter Tryd.func15 rfl rfl Tryd.ntmps15 (by simp) ?_
  refine walk none0 ?_
  generalize H.push (.cells [.bool a, .slice va l.length cap ex] 24 true false) = H1 at *
  refine Wq.loop (fun m e H' => ∃ i : Nat, i ≤ l.length ∧ m = l.length - i ∧ H' = H1 ∧ e 1 = .ptr (some (H.next, 0)) ∧ e 3 = .int .i64 i ∧ (0 < i → a = false) ∧ (∀ j < i, okAt l j) ∧ i ≤ 32) l.length ?_ ?_
  · exact ⟨0, by omega, by omega, rfl, by simp, by simp, by simp, fun j hj => by omega, by omega⟩
  · rintro m e H' ⟨i, hi, rfl, rfl, g1, g3, hall, hlo, hi32⟩
    by_cases hlt : i < l.length
    · obtain ⟨c, hcx⟩ := geti_lt hlt
      obtain ⟨b, o, cc, t, w, mk, rfl, _, hb1, hb2, hb3, hb4⟩ := int_at hB hcx
      have hne : l ≠ [] := by rintro rfl; simp at hlt
      cases a with
      | true =>
        refine walk (both g1 (both g3 (both hlt gB))) ?_
        refine Wq.regionD [0, 1, 2, 3, 4, 5, 6, 7, 8, 9, 10, 11, 12, 13, 14, 15, 16, 17, 18, 19, 20, 21, 22, 23, 24, 25, 26, 27, 28, 29, 30, 31] (by kernel_rfl) ?_
        refine walk (both g1 (both g3 (both hlt gB))) ?_
        exact ⟨kB, by simp [hne]⟩
      | false =>
        by_cases hneg : c < 0
        · have hno : ¬ (okL l ∧ l.length ≤ 32) := fun hh => by have := (hh.1 i hlt c hcx).1; omega
          refine walk (both g1 (both g3 (both hlt gB))) ?_
          refine Wq.regionD [0, 1, 2, 3, 4, 5, 6, 7, 8, 9, 10, 11, 12, 13, 14, 15, 16, 17, 18, 19, 20, 21, 22, 23, 24, 25, 26, 27, 28, 29, 30, 31] (by kernel_rfl) ?_
          refine walk (both g1 (both g3 (both hlt (both gB (both hb2 (both hb3 (both hb4 hneg))))))) ?_
          exact ⟨kB, by simp [hno]⟩
        · by_cases h0 : 0 < i
          · have h0I : 0 < (i : Int) := by omega
            obtain ⟨d, hdx⟩ := geti_lt (l := l) (i := i - 1) (by omega)
            obtain ⟨b', o', cc', t', w', mk', e', _, _, hb2', hb3', hb5⟩ := int_at hB hdx
            injection e' with e'; injection e' with e1 e2; subst e1; subst e2
            rw [hb2] at hb2'; injection hb2' with e'; injection e' with e1 e2 e4 e5; subst e1; subst e2; subst e4; subst e5
            by_cases hle : c ≤ d
            · have hno : ¬ (okL l ∧ l.length ≤ 32) := fun hh => by have := (hh.1 i hlt c hcx).2 h0 d hdx; omega
              refine walk (both g1 (both g3 (both hlt gB))) ?_
              refine Wq.regionD [0, 1, 2, 3, 4, 5, 6, 7, 8, 9, 10, 11, 12, 13, 14, 15, 16, 17, 18, 19, 20, 21, 22, 23, 24, 25, 26, 27, 28, 29, 30, 31] (by kernel_rfl) ?_
              refine walk (both g1 (both g3 (both hlt (both gB (both hb2 (both hb3 (both hb4 (both hneg (both h0I (both hb3' (both hb5 hle))))))))))) ?_
              exact ⟨kB, by simp [hno]⟩
            · have hok : okAt l i := fun c' hc' => by
                rw [hcx] at hc'; injection hc' with hc'; subst hc'
                exact ⟨by omega, fun _ b hb => by rw [hdx] at hb; injection hb with hb; subst hb; omega⟩
              by_cases h32 : 32 ≤ i
              · have h32I : 32 ≤ (i : Int) := by omega
                have hno : ¬ (okL l ∧ l.length ≤ 32) := fun hh => by omega
                refine walk (both g1 (both g3 (both hlt gB))) ?_
                refine Wq.regionD [0, 1, 2, 3, 4, 5, 6, 7, 8, 9, 10, 11, 12, 13, 14, 15, 16, 17, 18, 19, 20, 21, 22, 23, 24, 25, 26, 27, 28, 29, 30, 31] (by kernel_rfl) ?_
                refine walk (both g1 (both g3 (both hlt (both gB (both hb2 (both hb3 (both hb4 (both hneg (both h0I (both hb3' (both hb5 (both hle h32I)))))))))))) ?_
                exact ⟨kB, by simp [hno]⟩
              · have h32I : ¬ 32 ≤ (i : Int) := by omega
                refine walk (both g1 (both g3 (both hlt gB))) ?_
                refine Wq.regionD [0, 1, 2, 3, 4, 5, 6, 7, 8, 9, 10, 11, 12, 13, 14, 15, 16, 17, 18, 19, 20, 21, 22, 23, 24, 25, 26, 27, 28, 29, 30, 31] (by kernel_rfl) ?_
                refine walk (both g1 (both g3 (both hlt (both gB (both hb2 (both hb3 (both hb4 (both hneg (both h0I (both hb3' (both hb5 (both hle h32I)))))))))))) ?_
                exact Roundq.normal (l.length - (i + 1)) (by omega) ⟨i + 1, by omega, rfl, rfl, by simp [g1], by simp, fun _ => rfl, lt_step hlo hok, by omega⟩
          · have h0I : ¬ 0 < (i : Int) := by omega
            have h32I : ¬ 32 ≤ (i : Int) := by omega
            have hok : okAt l i := fun c' hc' => by
              rw [hcx] at hc'; injection hc' with hc'; subst hc'
              exact ⟨by omega, fun h => by omega⟩
            refine walk (both g1 (both g3 (both hlt gB))) ?_
            refine Wq.regionD [0, 1, 2, 3, 4, 5, 6, 7, 8, 9, 10, 11, 12, 13, 14, 15, 16, 17, 18, 19, 20, 21, 22, 23, 24, 25, 26, 27, 28, 29, 30, 31] (by kernel_rfl) ?_
            refine walk (both g1 (both g3 (both hlt (both gB (both hb2 (both hb3 (both hb4 (both hneg (both h0I h32I))))))))) ?_
            exact Roundq.normal (l.length - (i + 1)) (by omega) ⟨i + 1, by omega, rfl, rfl, by simp [g1], by simp, fun _ => rfl, lt_step hlo hok, by omega⟩
    · obtain rfl : i = l.length := by omega
      have hok : okL l := hlo
      cases a with
      | true =>
        have h0 : l = [] := by
          cases l with
          | nil => rfl
          | cons x r => exact absurd (hall (by simp)) (by simp)
        subst h0
        refine walk (both g1 (both g3 gB)) ?_
        exact ⟨kB, by simp⟩
      | false =>
        refine walk (both g1 (both g3 gB)) ?_
        exact ⟨kB, by simp [hok, hi32]⟩
end Go.Abs

/- Chapter 02: WhiteHas, walked. -/
namespace Go.Abs
open Go.Proofs
set_option maxRecDepth 100000
set_option linter.unusedVariables false
set_option linter.unusedSimpArgs false

theorem in31_ok {H : Heap} {v : AV} {l : List Int} (h : Is H v l) (hL : l.length ≤ 100000) (n : Int) : Cl Tryd.prog pr02 31 [v, .int .i64 n] H fun r H' => H' = H ∧ r = .bool (decide (n ∈ l)) := by
  obtain ⟨va, cap, ex, rfl, hc, hex⟩ := h.form
  refine Cl.enter Tryd.func31 rfl rfl Tryd.ntmps31 (by simp) ?_
  refine walk none0 ?_
  refine Wq.loop (fun m e H' => ∃ i : Nat, i ≤ l.length ∧ m = l.length - i ∧ H' = H ∧ e 0 = .slice va l.length cap ex ∧ e 1 = .int .i64 n ∧ e 5 = .int .i64 i ∧ ∀ j < i, l[j]? ≠ some n) l.length ?_ ?_
  · exact ⟨0, by omega, by omega, rfl, by simp, by simp, by simp, fun j hj => by omega⟩
  · rintro m e H' ⟨i, hi, rfl, rfl, g0, g1, g5, hlo⟩
    by_cases hlt : i < l.length
    · obtain ⟨c, hcx⟩ := geti_lt hlt
      obtain ⟨b, o, cc, t, w, mk, rfl, _, hb1, hb2, hb3, hb4⟩ := int_at h hcx
      by_cases hn : c = n
      · subst hn
        refine walk (both g0 (both g1 (both g5 (both hlt (both hb2 (both hb3 hb4)))))) ?_
        exact ⟨rfl, by rw [decide_eq_true (List.mem_of_getElem? hcx)]⟩
      · refine walk (both g0 (both g1 (both g5 (both hlt (both hb2 (both hb3 (both hb4 hn))))))) ?_
        exact Roundq.normal (l.length - (i + 1)) (by omega) ⟨i + 1, by omega, rfl, rfl, by simp [g0], by simp [g1], by simp, lt_step hlo (fun e => by rw [hcx] at e; injection e with e; exact hn e)⟩
    · obtain rfl : i = l.length := by omega
      have hno : n ∉ l := fun hm => by
        obtain ⟨j, hj⟩ := List.mem_iff_getElem?.1 hm
        exact hlo j (List.getElem?_eq_some_iff.1 hj).1 hj
      refine walk (both g0 (both g1 g5)) ?_
      exact ⟨rfl, by rw [decide_eq_false hno]⟩
theorem nan52_ok (x : Int) (H : Heap) : Cl Tryd.prog pr02 52 [.int .i64 x] H fun r H' => r = .bool false ∧ H' = H := by
  refine Cl.enter Tryd.func52 rfl rfl Tryd.ntmps52 (by simp) ?_
  refine walk none0 ?_
  exact ⟨rfl, rfl⟩
theorem less51_ok (x y : Int) (H : Heap) : Cl Tryd.prog pr02 51 [.int .i64 x, .int .i64 y] H fun r H' => r = .bool (decide (x < y)) ∧ H' = H := by
  have n59 : ∀ (x : Int) (H : Heap), Cl Tryd.prog pr02 59 [.int .i64 x] H fun r H' => r = .bool false ∧ H' = H := fun x H => by
    refine Cl.enter Tryd.func59 rfl rfl Tryd.ntmps59 (by simp) ?_
    refine walk none0 ?_
    exact ⟨rfl, rfl⟩
  refine Cl.enter Tryd.func51 rfl rfl Tryd.ntmps51 (by simp) ?_
  refine walk none0 ?_
  refine (n59 x H).mono fun v H1 _ ⟨ea, eb⟩ => ?_
  subst ea; subst eb
  refine walk none0 ?_
  exact ⟨rfl, rfl⟩
theorem sorted_lt {l : List Int} (h : okL l) : ∀ {i j : Nat} {a b : Int}, i < j → l[i]? = some a → l[j]? = some b → a < b := by
  intro i j
  induction j with
  | zero => intro a b hij; omega
  | succ j ih =>
    intro a b hij ha hb
    have hj := (List.getElem?_eq_some_iff.1 hb).1
    obtain ⟨c, hc⟩ := geti_lt (l := l) (i := j) (by omega)
    have h1 := (h (j + 1) hj b hb).2 (by omega) c (by simpa using hc)
    rcases Nat.lt_or_ge i j with h' | h'
    · have := ih h' ha hc; omega
    · obtain rfl : i = j := by omega
      rw [ha] at hc; injection hc with hc; omega
theorem search41_ok {H : Heap} {v : AV} {l : List Int} (h : Is H v l) (hL : l.length ≤ 100000) (hok : okL l) (n : Int) : Cl Tryd.prog pr02 41 [v, .int .i64 n] H fun r H' => H' = H ∧ ∃ k : Int, r = .tuple [.int .i64 k, .bool (decide (n ∈ l))] := by
  obtain ⟨va, cap, ex, rfl, hc, hex⟩ := h.form
  refine Cl.enter Tryd.func41 rfl rfl Tryd.ntmps41 (by simp) ?_
  refine walk none0 ?_
  refine Wq.loop (fun m e H' => ∃ i j : Nat, i ≤ j ∧ j ≤ l.length ∧ m = j - i ∧ H' = H ∧ e 0 = .slice va l.length cap ex ∧ e 1 = .int .i64 n ∧ e 6 = .int .i64 l.length ∧ e 7 = .int .i64 i ∧ e 8 = .int .i64 j ∧ (∀ (k : Nat) (a : Int), k < i → l[k]? = some a → a < n) ∧ (∀ (k : Nat) (a : Int), j ≤ k → l[k]? = some a → n ≤ a)) l.length ?_ ?_
  · exact ⟨0, l.length, by omega, by omega, by omega, rfl, by simp, by simp, by simp, by simp, by simp, fun k a hk => by omega, fun k a hk ha => by have := (List.getElem?_eq_some_iff.1 ha).1; omega⟩
  · rintro m e H' ⟨i, j, hij, hj, rfl, rfl, g0, g1, g6, g7, g8, hlo, hhi⟩
    by_cases hlt : i < j
    · obtain ⟨md, hmd⟩ : ∃ md, md = (i + j) / 2 := ⟨_, rfl⟩
      obtain ⟨c, hcx⟩ := geti_lt (l := l) (i := md) (by omega)
      obtain ⟨b, o, cc, t, w, mk, rfl, _, hb1, hb2, hb3, hb4⟩ := int_at h hcx
      have hltI : (i : Int) < j := by omega
      have hm1 : IntKind.u64.wrap ((i : Int) + j) = (i : Int) + j := by simp [IntKind.wrap, IntKind.signed, IntKind.bits]; omega
      have hm2 : ((i : Int) + j).fdiv (2 ^ min 1 IntKind.u64.bits) = (md : Int) := by
        rw [show min 1 IntKind.u64.bits = 1 from rfl, Int.fdiv_eq_ediv_of_nonneg _ (by omega)]
        omega
      have hm3 : IntKind.i64.wrap (md : Int) = md := by simp [IntKind.wrap, IntKind.signed, IntKind.bits]; omega
      have hmdl : md < l.length := by omega
      have hmdI : (md : Int) < l.length := by omega
      refine walk (both g0 (both g1 (both g6 (both g7 (both g8 (both hltI (both hm1 (both hm2 (both hm3 (both hmdl (both hmdI (both hb2 (both hb3 hb4))))))))))))) ?_
      refine (less51_ok c n H').mono fun v H1 _ ⟨ea, eb⟩ => ?_
      subst ea; subst eb
      by_cases hcn : c < n
      · refine walk (both g0 (both g1 (both g6 (both g7 (both g8 hcn))))) ?_
        refine Roundq.normal (j - (md + 1)) (by omega) ⟨md + 1, j, by omega, hj, rfl, rfl, by simp [g0], by simp [g1], by simp [g6], by simp, by simp [g8], fun k a hk ha => ?_, hhi⟩
        rcases Nat.lt_or_ge k md with h' | h'
        · have := sorted_lt hok h' ha hcx; omega
        · obtain rfl : k = md := by omega
          rw [hcx] at ha; injection ha with ha; omega
      · refine walk (both g0 (both g1 (both g6 (both g7 (both g8 hcn))))) ?_
        refine Roundq.normal (md - i) (by omega) ⟨i, md, by omega, by omega, rfl, rfl, by simp [g0], by simp [g1], by simp [g6], by simp [g7], by simp, hlo, fun k a hk ha => ?_⟩
        rcases Nat.lt_or_ge md k with h' | h'
        · have := sorted_lt hok h' hcx ha; omega
        · obtain rfl : k = md := by omega
          rw [hcx] at ha; injection ha with ha; omega
    · obtain rfl : i = j := by omega
      by_cases hil : i < l.length
      · obtain ⟨c, hcx⟩ := geti_lt hil
        obtain ⟨b, o, cc, t, w, mk, rfl, _, hb1, hb2, hb3, hb4⟩ := int_at h hcx
        have hilI : (i : Int) < l.length := by omega
        by_cases hcn : c = n
        · subst hcn
          have hm : c ∈ l := List.mem_of_getElem? hcx
          rw [decide_eq_true hm]
          refine walk (both g0 (both g1 (both g6 (both g7 (both g8 (both hil (both hilI (both hb2 (both hb3 hb4))))))))) ?_
          exact ⟨rfl, _, rfl⟩
        · have hm : n ∉ l := fun hm => by
            obtain ⟨k, hk⟩ := List.mem_iff_getElem?.1 hm
            rcases Nat.lt_or_ge k i with h' | h'
            · have := hlo k n h' hk; omega
            · rcases Nat.lt_or_ge i k with h'' | h''
              · have h1 := sorted_lt hok h'' hcx hk
                have h2 := hhi i c (Nat.le_refl _) hcx
                omega
              · obtain rfl : k = i := by omega
                rw [hcx] at hk; injection hk with hk; exact hcn hk
          rw [decide_eq_false hm]
          refine walk (both g0 (both g1 (both g6 (both g7 (both g8 (both hil (both hilI (both hb2 (both hb3 (both hb4 hcn)))))))))) ?_
          refine (nan52_ok c H').mono fun v H1 _ ⟨ea, eb⟩ => ?_
          subst ea; subst eb
          refine walk g7 ?_
          exact ⟨rfl, _, rfl⟩
      · have hm : n ∉ l := fun hm => by
          obtain ⟨k, hk⟩ := List.mem_iff_getElem?.1 hm
          have hkl := (List.getElem?_eq_some_iff.1 hk).1
          have := hlo k n (by omega) hk
          omega
        have hilI : ¬ (i : Int) < l.length := by omega
        rw [decide_eq_false hm]
        refine walk (both g0 (both g1 (both g6 (both g7 (both g8 hilI))))) ?_
        exact ⟨rfl, _, rfl⟩
/-- What is in a whitelist. -/
noncomputable def hasP (a : Bool) (l : List Int) (n : Int) : Bool := canP a l && decide (0 ≤ n) && (a || decide (n ∈ l))
theorem canP_ok {a : Bool} {l : List Int} (h : canP a l = true) : okL l ∧ l.length ≤ 100000 := by
  unfold canP at h
  cases a with
  | true =>
    simp at h
    subst h
    exact ⟨fun i hi => by simp at hi, by simp⟩
  | false =>
    simp at h
    exact ⟨h.1, by omega⟩
theorem has30_ok {H : Heap} {a : Bool} {v : AV} {l : List Int} (h : Is H v l) (hL : l.length ≤ 100000) (n : Int) : Cl Tryd.prog pr02 30 [.agg [.bool a, v], .int .i64 n] H fun r H' => Keep H H' ∧ r = .bool (hasP a l n) := by
  obtain ⟨va, cap, ex, rfl, hc, hex⟩ := h.form
  have kB : Keep H (H.push (.cells [.bool a, .slice va l.length cap ex] 24 true false)) := Upd.rfl.push _
  have gB : (H.push (.cells [.bool a, .slice va l.length cap ex] 24 true false)).get H.next = some (.cells [.bool a, .slice va l.length cap ex] 24 true false) := by simp
  have nB : H.next < (H.push (.cells [.bool a, .slice va l.length cap ex] 24 true false)).next := by simp
  have hB := h.kept kB
  unfold hasP
  refine Cl.enter Tryd.func30 rfl rfl Tryd.ntmps30 (by simp) ?_
  by_cases h0 : n < 0
  · have e : decide (0 ≤ n) = false := decide_eq_false (by omega)
    rw [e, Bool.and_false, Bool.false_and]
    refine walk h0 ?_
    exact ⟨kB, rfl⟩
  · have e : decide (0 ≤ n) = true := decide_eq_true (by omega)
    rw [e, Bool.and_true]
    refine walk h0 ?_
    generalize H.push (.cells [.bool a, .slice va l.length cap ex] 24 true false) = H1 at *
    refine (can34_ok hB hL).mono fun v H2 _ ⟨kA, ea⟩ => ?_
    subst ea
    have g2 := (kA.get nB).trans gB
    cases hcp : canP a l with
    | false =>
      refine walk none0 ?_
      exact ⟨kB.then kA, rfl⟩
    | true =>
      obtain ⟨hok, _⟩ := canP_ok hcp
      refine walk g2 ?_
      refine (search41_ok (hB.kept kA) hL hok n).mono fun v H3 _ ⟨ea, k, eb⟩ => ?_
      subst ea; subst eb
      cases hin : decide (n ∈ l) with
      | true =>
        refine walk none0 ?_
        exact ⟨kB.then kA, by simp⟩
      | false =>
        refine walk g2 ?_
        exact ⟨kB.then kA, by simp⟩
theorem Has10_ok {H : Heap} {a : Bool} {v : AV} {l : List Int} (h : Is H v l) (hL : l.length ≤ 100000) (n : Int) : Cl Tryd.prog pr02 10 [.agg [.bool a, v], .int .i64 n] H fun r H' => Keep H H' ∧ r = .bool (hasP a l n) := by
  obtain ⟨va, cap, ex, rfl, hc, hex⟩ := h.form
  have kB : Keep H (H.push (.cells [.bool a, .slice va l.length cap ex] 24 true false)) := Upd.rfl.push _
  refine Cl.enter Tryd.func10 rfl rfl Tryd.ntmps10 (by simp) ?_
  refine walk none0 ?_
  refine (has30_ok (h.kept kB) hL n).mono fun v H2 _ ⟨kA, ea⟩ => ?_
  subst ea
  refine walk none0 ?_
  exact ⟨kB.then kA, rfl⟩
theorem refHas11_ok {H : Heap} {a : Bool} {v : AV} {l : List Int} (h : Is H v l) (hL : l.length ≤ 100000) (n : Int) : Cl Tryd.prog pr02 11 [.agg [.bool a, v], .int .i64 n] H fun r H' => Keep H H' ∧ r = .bool (hasP a l n) := by
  obtain ⟨va, cap, ex, rfl, hc, hex⟩ := h.form
  have kB : Keep H (H.push (.cells [.bool a, .slice va l.length cap ex] 24 true false)) := Upd.rfl.push _
  have gB : (H.push (.cells [.bool a, .slice va l.length cap ex] 24 true false)).get H.next = some (.cells [.bool a, .slice va l.length cap ex] 24 true false) := by simp
  have nB : H.next < (H.push (.cells [.bool a, .slice va l.length cap ex] 24 true false)).next := by simp
  have hB := h.kept kB
  unfold hasP
  refine Cl.enter Tryd.func11 rfl rfl Tryd.ntmps11 (by simp) ?_
  refine walk none0 ?_
  generalize H.push (.cells [.bool a, .slice va l.length cap ex] 24 true false) = H1 at *
  refine (refCan15_ok hB hL).mono fun v H2 _ ⟨kA, ea⟩ => ?_
  subst ea
  have g2 := (kA.get nB).trans gB
  cases hcp : canP a l with
  | false =>
    refine walk none0 ?_
    exact ⟨kB.then kA, rfl⟩
  | true =>
    by_cases h0 : 0 ≤ n
    · rw [decide_eq_true h0]
      cases a with
      | true =>
        refine walk (both g2 h0) ?_
        exact ⟨kB.then kA, rfl⟩
      | false =>
        refine walk (both g2 h0) ?_
        refine (in31_ok (hB.kept kA) hL n).mono fun v H3 _ ⟨ea, eb⟩ => ?_
        subst ea; subst eb
        refine walk none0 ?_
        exact ⟨kB.then kA, by simp⟩
    · rw [decide_eq_false h0]
      refine walk (both g2 h0) ?_
      exact ⟨kB.then kA, rfl⟩
end Go.Abs

/- Chapter 02: WhiteHas. -/
namespace Go.Abs
open Go.Proofs
set_option maxRecDepth 100000
set_option linter.unusedVariables false
set_option linter.unusedSimpArgs false

theorem FreshG.is {H0 H : Heap} {elem : TypeId} {v : AV} {l : List Int} (f : FreshG H0 H elem 1 v l.length (ints l)) : Is H v l := f.own.sl
theorem take_twice (l : List Int) : (l.take 200).take 200 = l.take 200 := by rw [List.take_take]; rfl
theorem whiteHas_main {H : Heap} {a : Bool} {v : AV} {l : List Int} (h : Is H v l) (n : Int) : Cl Tryd.prog pr02 3 [.agg [.bool a, v], .int .i64 n] H fun r _ => r = .bool true := by
  obtain ⟨va, cap, ex, rfl, hc, hex⟩ := h.form
  have kB : Keep H (H.push (.cells [.bool a, .slice va l.length cap ex] 24 true false)) := Upd.rfl.push _
  have nB : H.next < (H.push (.cells [.bool a, .slice va l.length cap ex] 24 true false)).next := by simp
  have hB := h.kept kB
  refine Cl.enter Tryd.func3 rfl rfl Tryd.ntmps3 (by simp) ?_
  refine walk none0 ?_
  have gB : (H.push (.cells [.bool a, .slice va l.length cap ex] 24 true false)).get H.next = some (.cells [.bool a, .slice va l.length cap ex] 24 true false) := by simp
  generalize H.push (.cells [.bool a, .slice va l.length cap ex] 24 true false) = H1 at *
  refine (short9_ok hB).mono fun v H2 _ ⟨w, ea, f1⟩ => ?_
  subst ea
  have hL : (l.take 200).length ≤ 100000 := by simp; omega
  generalize hl2 : l.take 200 = l2 at *
  obtain ⟨wa, wc, wx, rfl, hwc, hwx⟩ := f1.own.form
  have g2 := (f1.keep.get nB).trans gB
  have n2 : H.next < H2.next := Nat.lt_of_lt_of_le nB f1.keep.next
  have hnew := f1.new
  have h2 : Is (H2.set H.next (.cells [.bool a, .slice wa l2.length wc wx] 24 true false)) (.slice wa l2.length wc wx) l2 := Sl.set f1.is _ (fun e => by have := hnew _ e; omega)
  have g3 : (H2.set H.next (.cells [.bool a, .slice wa l2.length wc wx] 24 true false)).get H.next = some (.cells [.bool a, .slice wa l2.length wc wx] 24 true false) := Heap.get_set_same _ _ _
  refine walk g2 ?_
  refine Wq.regionM [(0, 0), (1, 0), (2, 0), (3, 0), (4, 3), (5, 0), (6, 0), (7, 0), (8, 0), (9, 0), (10, 0), (11, 0)] (by kernel_rfl) ?_
  refine mwalk none0 ?_
  have hs := short9_ok (a := a) h2
  have ht : l2.take 200 = l2 := by rw [← hl2]; exact take_twice l
  rw [ht] at hs
  generalize hH3 : H2.set H.next (.cells [.bool a, .slice wa l2.length wc wx] 24 true false) = H3 at *
  have n3 : H.next < H3.next := by rw [← hH3]; simpa using n2
  refine hs.mono fun v H4 _ ⟨w, ea, f4⟩ => ?_
  subst ea
  obtain ⟨ua, uc, ux, rfl, huc, hux⟩ := f4.own.form
  have g4 := (f4.keep.get n3).trans g3
  have n4 : H.next < H4.next := Nat.lt_of_lt_of_le n3 f4.keep.next
  have h4 := h2.kept f4.keep
  refine mwalk (both g3 g4) ?_
  refine (Has10_ok f4.is hL n).mono fun v H5 _ ⟨kA, ea⟩ => ?_
  subst ea
  have g5 := (kA.get n4).trans g4
  have h5 := h4.kept kA
  refine mwalk (both g3 (both g4 g5)) ?_
  refine (refHas11_ok h5 hL n).mono fun v H6 _ ⟨kB, ea⟩ => ?_
  subst ea
  generalize hasP a l2 n = z
  refine mwalk none0 ?_
  refine (lives_ok _).mono fun v H7 _ ⟨ea, eb⟩ => ?_
  subst ea; subst eb
  refine mwalk none0 ?_
  refine walk none0 ?_
  rfl
end Go.Abs

/- Chapter 02: lists that come in. -/
namespace Go.Abs
open Go.Proofs
set_option maxRecDepth 100000
set_option linter.unusedVariables false
set_option linter.unusedSimpArgs false

theorem nums_of : ∀ {n : Nat} {c : List AV}, c.length = n → (∀ i, i < n → ∃ x, (c.drop i).take 1 = [.int .i64 x] ∧ -9223372036854775808 ≤ x ∧ x < 9223372036854775808) → ∃ l : List Int, l.length = n ∧ c = ints l ∧ ∀ x ∈ l, -9223372036854775808 ≤ x ∧ x < 9223372036854775808
  | 0, c, hl, _ => ⟨[], rfl, List.eq_nil_of_length_eq_zero hl, by simp⟩
  | n + 1, [], hl, _ => by simp at hl
  | n + 1, a :: c, hl, h => by
    obtain ⟨x, hx, hb⟩ := h 0 (by omega)
    simp at hx
    obtain ⟨l, hl', e, hbl⟩ := nums_of (n := n) (c := c) (by simpa using hl) fun i hi => by
      obtain ⟨y, hy, hb⟩ := h (i + 1) (by omega)
      exact ⟨y, by simpa using hy, hb⟩
    refine ⟨x :: l, by simp [hl'], by rw [hx, e]; rfl, fun y hy => ?_⟩
    rcases List.mem_cons.1 hy with rfl | hy
    · exact hb
    · exact hbl y hy
theorem ints_of {H : Heap} {n : Nat} {v : AV} (h : Pic Tryd.prog H (n + 2) 22 [v]) : ∃ l : List Int, Is H v l ∧ ∀ x ∈ l, -9223372036854775808 ≤ x ∧ x < 9223372036854775808 := by
  obtain ⟨len, c, h1, h2, h3, h4⟩ := pic_slice (s := 1) Tryd.underlying22 (by kernel_rfl) h
  obtain ⟨l, hl, e, hb⟩ := nums_of (n := len) (c := c) (by have := h1.len; omega) fun i hi => by
    have := h4 i hi
    rw [Nat.mul_one] at this
    obtain ⟨x, hx, hw⟩ := pic_int Tryd.underlying3 this
    refine ⟨x, hx, ?_⟩
    simp [Lit.wf, IntKind.min, IntKind.max, IntKind.signed, IntKind.bits] at hw
    omega
  subst e
  exact ⟨l, by unfold Is; rw [hl]; exact h1, hb⟩
theorem white_of {H : Heap} {n : Nat} {a : AV} (h : PicV Tryd.prog H (n + 3) 24 a) : ∃ x v l, a = .agg [.bool x, v] ∧ Is H v l ∧ ∀ x ∈ l, -9223372036854775808 ≤ x ∧ x < 9223372036854775808 := by
  unfold PicV at h
  simp only [Tryd.underlying24] at h
  obtain ⟨cs, rfl, h⟩ := h
  unfold Pic at h
  simp only [Tryd.underlying24] at h
  obtain ⟨hl, hf⟩ := h
  have c4 : Tryd.prog.cellsOf 4 = 1 := by kernel_rfl
  have c22 : Tryd.prog.cellsOf 22 = 1 := by kernel_rfl
  have c24 : Tryd.prog.cellsOf 24 = 2 := by kernel_rfl
  rw [c24] at hl
  match cs, hl with
  | [a, c], _ =>
    simp [c4, c22] at hf
    obtain ⟨h0, h2⟩ := hf
    obtain ⟨x, e0⟩ := pic_bool Tryd.underlying4 h0
    obtain ⟨l, hl, hb⟩ := ints_of h2
    simp at e0
    subst e0
    exact ⟨x, c, l, rfl, hl, hb⟩
end Go.Abs

/- WhiteHas: the row and its card. -/
namespace Go.Proofs.YtfebefhibgpmjaaDoor
open Go.ChangeShapes Go.WideShapes Go.ChangeAt Go.RowKit Go.Abs
set_option linter.unusedVariables false
set_option maxRecDepth 100000

theorem whiteHasMain (H : Heap) (xs : List AV) (hG : Tryd.prog.globals.size ≤ H.next) (hw : Wf H) (hL : Lain S02 H) (h : PicAll Tryd.prog H 4 [24, 3] xs) : CallsA Tryd.prog pr02 3 xs H fun v _ => v = .bool true := by
  obtain ⟨a0, r0, rfl, h0, a1, r1, rfl, h1, hend⟩ := h
  obtain rfl : r1 = [] := hend
  refine Cl.callsA primsRl hw ?_
  obtain ⟨x0, v0, l0, rfl, s0, b0⟩ := white_of (n := 1) h0
  obtain ⟨n, rfl, _⟩ := picV_i64 Tryd.underlying3 h1
  exact whiteHas_main s0 n

theorem whiteHasLifted (os : Os) (started : os.Started) (H : Type) (enc : TypeId × Value → H) :
    ReturnsInHanded {} Tryd.checked os 3 .any (fun w args => (Rows.whiteHasSpec.pre enc Tryd.prog Tryd.f3 [] false w args ∧ laidMetH Tryd.prog Rows.whiteHasRow.laid w) ∧ sizedMet enc Tryd.prog Tryd.f3 (OpenSpec.ofChange Rows.whiteHasSpec) false w args)
      (Rows.whiteHasSpec.post enc Tryd.prog Tryd.f3 false true false false) := by
  refine returnsInHanded_of_change_and (C := Tryd.checked) (X := fun w _ => laidMetH Tryd.prog Rows.whiteHasRow.laid w) (fun _ _ _ hh h => h.of_heap hh) own started (by kernel_rfl) Tryd.func3
    (ChangeSpec.witness_shaped (enc := enc) (C := Tryd.checked) (os := os) (X := fun w _ => laidMetH Tryd.prog Rows.whiteHasRow.laid w) false (World.laidAll Tryd.prog os Rows.whiteHasRow.laid) #[.agg #[.bool false, .slice none 0 0], .int .i64 0] 8 (World.laidAll_os _ _ _)
      (World.shaped_of_ZipB (by kernel_rfl) (by kernel_rfl)) (by kernel_rfl) (by kernel_rfl) (by kernel_rfl)
      (by rw [MakeChecks.laidMetH_plain _ _ _ (by kernel_rfl)]; exact laidMet_laidAll _ (by kernel_rfl) (by kernel_rfl))) ?_
  intro W base args ds gs before hval hW hcnd _ hL _
  rw [MakeChecks.laidMetH_plain _ _ _ (by kernel_rfl)] at hL
  have ep : Tryd.f3.params.toList = [24, 3] := by kernel_rfl
  refine law_post laidOut rfl (fun ds h => ?_) (tb := 4) (by kernel_rfl) Tryd.underlying4 ?_ hW (fun p hA => ?_)
  · rw [ep] at h
    match ds, h with
    | [a0, a1], _ => rfl
  · rw [ep]
    intro t ht
    simp at ht
    rcases ht with rfl | rfl <;> exact ⟨by kernel_rfl, of_decide_eq_true (by kernel_rfl)⟩
  · refine law_calls_laid primsOk mixed plainN Tryd.func3 rfl (S := S02) (tabs_of (Rows.whiteHasRow.laid) W hL trivial) tabs_get (n := 4) (base := base) (ts := Tryd.f3.params.toList) ?_ ?_ ?_ hA
    · rw [ep]
      intro t ht
      simp at ht
      rcases ht with rfl | rfl <;> kernel_rfl
    · rw [ep]
      exact whiteHasMain
    · intro j t v h1 h2
      exact hval j t v (by simpa using h1) (by simpa using h2)

theorem whiteHasRow : Rows.WhiteHasSaid :=
  OpenClaim.holds_of_wide 3 Tryd.f3 rfl rfl rfl rfl rfl rfl rfl ⟨rfl, rfl, rfl, rfl, rfl⟩ rfl rfl rfl rfl rfl (by kernel_rfl) Tryd.func3 (by kernel_rfl)
    (of_decide_eq_true (by kernel_rfl)) (by unfold Func.isWrapper; first | (rw [if_pos (by decide +kernel)]; kernel_rfl) | (rw [if_neg (by decide +kernel)]; exact ⟨rfl, rfl⟩))
    (fun os started H enc _ => whiteHasLifted os started H enc)
theorem whiteHas : Rows.WhiteHasCardSaid :=
  Claim7.holds_tied_plain_at .later [] [.data, .data, .data] true (true, "3f219ea87593acb0550e6c6be303ee0f0b10e7d34b0a5fd299bd936d5766cc94") false whiteHasRow (fun _ h => by cases h) (by kernel_rfl) (fun _ h => by cases h) whiteHas_row_tie rfl ⟨rfl, rfl⟩ (by kernel_rfl) rfl
    (fun f fn hf hfn => by
      obtain rfl : f = 3 := Option.some.inj ((show Tryd.prog.funcNamed Rows.whiteHasRow.func = some 3 by kernel_rfl).symm.trans hf) |>.symm
      obtain rfl : fn = Tryd.f3 := (Option.some.inj (Tryd.func3.symm.trans hfn)).symm
      exact ⟨by kernel_rfl, fun j t ht => by
        rw [Tryd.params3] at ht
        have hm : t ∈ [24, 3] := by simpa using Array.mem_of_getElem? ht
        have hall : ([24, 3].all fun u => !Tryd.prog.wantsStandIn u) = true := by kernel_rfl
        exact (show Tryd.prog.wantsStandIn t = false by simpa using List.all_eq_true.1 hall t hm)⟩)
    (by kernel_rfl)
-- #print axioms whiteHas
end Go.Proofs.YtfebefhibgpmjaaDoor
