/- Texts on this program, joined. -/
import Derived.Test.YtkeenmalbkcjnaaOwn07
import Derived.Test.YtkeenmalbkcjnaaKit08
import Derived.Test.YtkeenmalbkcjnaaKit06

/- Chapter 13: what is asked of masks, walked. -/
namespace Go.Abs
open Go.Proofs
set_option maxRecDepth 100000
set_option linter.unusedVariables false
set_option linter.unusedSimpArgs false

theorem bit39_ok (n : Int) (i : Nat) (hi : i < 64) (H : Heap) : Cl Try.prog pr13 52 [.int .i64 n, .int .i64 i] H fun v H' => v = .bool (bitN n i) ∧ H' = H := by
  have hw : IntKind.u64.wrap (i : Int) = i := by simp [IntKind.wrap, IntKind.signed, IntKind.bits]; omega
  refine Cl.enter Try.func52 rfl rfl Try.ntmps52 (by simp) ?_
  refine walk hw ?_
  rw [fdiv_bit n i hi]
  exact ⟨rfl, rfl⟩
def offM (i : Nat) : Bool := decide (i < 3 ∨ 6 < i)
def maskBad (o m : Int) : Prop := ∃ i < 64, offM i = true ∧ (bitN o i || bitN m i) = true
def maskOver (o m : Int) : Prop := ∃ i < 64, bitN m i = true ∧ bitN o i = false
open Classical in
noncomputable def maskR (o m : Int) : Int × Int := if maskBad o m then (0, 22) else if maskOver o m then (0, 93) else (m, 0)
theorem mask120 : ((List.range 64).all fun i => ((120 % 2 ^ IntKind.i64.bits : Nat).testBit i) == !(offM i)) = true := by kernel_rfl
theorem bad_fact (o m : Int) : (IntKind.i64.wrap (((IntKind.i64.wrap (((o % 2 ^ IntKind.i64.bits).toNat ||| (m % 2 ^ IntKind.i64.bits).toNat : Nat) : Int) % 2 ^ IntKind.i64.bits).toNat &&& 2 ^ IntKind.i64.bits - 1 - 120 % 2 ^ IntKind.i64.bits : Nat) : Int) = 0) = ¬ maskBad o m := by
  have h := andNot_zero (IntKind.i64.wrap (((o % 2 ^ IntKind.i64.bits).toNat ||| (m % 2 ^ IntKind.i64.bits).toNat : Nat) : Int)) 120
  have e : ((120 : Int) % 2 ^ IntKind.i64.bits).toNat = 120 % 2 ^ IntKind.i64.bits := by decide
  rw [e] at h
  rw [h, eq_iff_iff]
  have hb : ∀ i < 64, bitN 120 i = !(offM i) := fun i hi => by
    unfold bitN
    rw [e]
    exact beq_iff_eq.1 (List.all_eq_true.1 mask120 i (List.mem_range.2 hi))
  unfold maskBad
  constructor
  · rintro h1 ⟨i, hi, h2, h3⟩
    have := h1 i hi (by rw [or_bit]; exact h3)
    rw [hb i hi, h2] at this
    cases this
  · intro h1 i hi h2
    rw [or_bit] at h2
    rw [hb i hi]
    cases h3 : offM i with
    | false => rfl
    | true => exact absurd ⟨i, hi, h3, h2⟩ h1
theorem over_fact (o m : Int) : (IntKind.i64.wrap (((m % 2 ^ IntKind.i64.bits).toNat &&& 2 ^ IntKind.i64.bits - 1 - (o % 2 ^ IntKind.i64.bits).toNat : Nat) : Int) = 0) = ¬ maskOver o m := by
  rw [andNot_zero, eq_iff_iff]
  unfold maskOver
  constructor
  · rintro h1 ⟨i, hi, h2, h3⟩
    have := h1 i hi h2
    rw [this] at h3
    cases h3
  · intro h1 i hi h2
    cases h3 : bitN o i with
    | true => rfl
    | false => exact absurd ⟨i, hi, h2, h3⟩ h1
theorem mask_ok (o m : Int) (H : Heap) : Cl Try.prog pr13 40 [.int .i64 o, .int .i64 m] H fun v H' => v = .tuple [.int .i64 (maskR o m).1, .int .i64 (maskR o m).2] ∧ H' = H := by
  have f1 := bad_fact o m
  have f2 := over_fact o m
  unfold maskR
  refine Cl.enter Try.func40 rfl rfl Try.ntmps40 (by simp) ?_
  by_cases h1 : maskBad o m
  · have f1 := f1.trans (eq_false (fun h => h h1))
    rw [if_pos h1]
    refine walk f1 ?_
    exact ⟨rfl, rfl⟩
  · have f1 := f1.trans (eq_true h1)
    rw [if_neg h1]
    by_cases h2 : maskOver o m
    · have f2 := f2.trans (eq_false (fun h => h h2))
      rw [if_pos h2]
      refine walk (both f1 f2) ?_
      exact ⟨rfl, rfl⟩
    · have f2 := f2.trans (eq_true h2)
      rw [if_neg h2]
      refine walk (both f1 f2) ?_
      exact ⟨rfl, rfl⟩
end Go.Abs

/- Chapter 13: WhiteMasks, the reference walked. -/
namespace Go.Abs
open Go.Proofs
set_option maxRecDepth 100000
set_option linter.unusedVariables false
set_option linter.unusedSimpArgs false

theorem lt_step {p : Nat → Prop} {i : Nat} (h : ∀ j < i, p j) (hi : p i) : ∀ j < i + 1, p j := fun j hj => by
  rcases Nat.lt_or_ge j i with h' | h'
  · exact h j h'
  · obtain rfl : j = i := by omega
    exact hi
theorem refMask_ok (o m : Int) (H : Heap) : Cl Try.prog pr13 31 [.int .i64 o, .int .i64 m] H fun v H' => v = .tuple [.int .i64 (maskR o m).1, .int .i64 (maskR o m).2] ∧ H' = H := by
  refine Cl.enter Try.func31 rfl rfl Try.ntmps31 (by simp) ?_
  refine walk none0 ?_
  refine Wq.loop (fun k e H' => ∃ i : Nat, i ≤ 64 ∧ k = 64 - i ∧ H' = H ∧ e 0 = .int .i64 o ∧ e 1 = .int .i64 m ∧ e 6 = .int .i64 i ∧ ∀ j < i, ¬ (offM j = true ∧ (bitN o j || bitN m j) = true)) 64 ?_ ?_
  · exact ⟨0, by omega, by omega, rfl, by simp, by simp, by simp, fun j hj => by omega⟩
  · rintro k e H' ⟨i, hi, rfl, rfl, e0, e1, e6, hlo⟩
    by_cases hlt : i < 64
    · have hltI : (i : Int) < 64 := by omega
      have bad : offM i = true → (bitN o i || bitN m i) = true → maskR o m = (0, 22) := fun h1 h2 => by
        unfold maskR; rw [if_pos ⟨i, hlt, h1, h2⟩]
      by_cases h3 : i < 3
      · have h3 : (i : Int) < 3 := by omega
        have h6 : True := trivial
        have hoff : offM i = true := decide_eq_true (.inl (by omega))
        refine walk (both e0 (both e1 (both e6 (both hltI (both h3 h6))))) ?_
        refine (bit39_ok o i hlt H').mono fun v H1 _ ⟨ea, eb⟩ => ?_
        subst ea; subst eb
        cases hb : bitN o i with
        | true =>
          have hr := bad hoff (by rw [hb]; rfl)
          rw [hr]
          refine walk (both e0 (both e1 e6)) ?_
          exact ⟨rfl, rfl⟩
        | false =>
          refine walk (both e0 (both e1 e6)) ?_
          refine (bit39_ok m i hlt H1).mono fun v H2 _ ⟨ea, eb⟩ => ?_
          subst ea; subst eb
          cases hb2 : bitN m i with
          | true =>
            have hr := bad hoff (by rw [hb, hb2]; rfl)
            rw [hr]
            refine walk (both e0 (both e1 e6)) ?_
            exact ⟨rfl, rfl⟩
          | false =>
            refine walk (both e0 (both e1 e6)) ?_
            exact Roundq.normal (64 - (i + 1)) (by omega) ⟨i + 1, by omega, rfl, rfl, by simp [e0], by simp [e1], by simp, lt_step hlo (fun h => by rw [hb, hb2] at h; exact absurd h.2 (by simp))⟩
      · have h3 : ¬ (i : Int) < 3 := by omega
        by_cases h6 : 6 < i
        · have h6 : 6 < (i : Int) := by omega
          have hoff : offM i = true := decide_eq_true (.inr (by omega))
          refine walk (both e0 (both e1 (both e6 (both hltI (both h3 h6))))) ?_
          refine (bit39_ok o i hlt H').mono fun v H1 _ ⟨ea, eb⟩ => ?_
          subst ea; subst eb
          cases hb : bitN o i with
          | true =>
            have hr := bad hoff (by rw [hb]; rfl)
            rw [hr]
            refine walk (both e0 (both e1 e6)) ?_
            exact ⟨rfl, rfl⟩
          | false =>
            refine walk (both e0 (both e1 e6)) ?_
            refine (bit39_ok m i hlt H1).mono fun v H2 _ ⟨ea, eb⟩ => ?_
            subst ea; subst eb
            cases hb2 : bitN m i with
            | true =>
              have hr := bad hoff (by rw [hb, hb2]; rfl)
              rw [hr]
              refine walk (both e0 (both e1 e6)) ?_
              exact ⟨rfl, rfl⟩
            | false =>
              refine walk (both e0 (both e1 e6)) ?_
              exact Roundq.normal (64 - (i + 1)) (by omega) ⟨i + 1, by omega, rfl, rfl, by simp [e0], by simp [e1], by simp, lt_step hlo (fun h => by rw [hb, hb2] at h; exact absurd h.2 (by simp))⟩
        · have h6 : ¬ 6 < (i : Int) := by omega
          have hoff : offM i = false := decide_eq_false (by omega)
          refine walk (both e0 (both e1 (both e6 (both hltI (both h3 h6))))) ?_
          exact Roundq.normal (64 - (i + 1)) (by omega) ⟨i + 1, by omega, rfl, rfl, by simp [e0], by simp [e1], by simp, lt_step hlo (fun h => by rw [hoff] at h; exact absurd h.1 (by simp))⟩
    · obtain rfl : i = 64 := by omega
      have hnb : ¬ maskBad o m := fun ⟨i, hi, h⟩ => hlo i hi h
      refine walk (both e0 (both e1 e6)) ?_
      refine Wq.loop (fun k e H2 => ∃ i : Nat, i ≤ 64 ∧ k = 64 - i ∧ H2 = H' ∧ e 0 = .int .i64 o ∧ e 1 = .int .i64 m ∧ e 7 = .int .i64 i ∧ ∀ j < i, ¬ (bitN m j = true ∧ bitN o j = false)) 64 ?_ ?_
      · exact ⟨0, by omega, by omega, rfl, by simp [e0], by simp [e1], by simp, fun j hj => by omega⟩
      · rintro k e' H2 ⟨i, hi, rfl, rfl, q0, q1, q7, hlo2⟩
        by_cases hlt : i < 64
        · have hltI : (i : Int) < 64 := by omega
          refine walk (both q0 (both q1 (both q7 hltI))) ?_
          refine (bit39_ok m i hlt H2).mono fun v H3 _ ⟨ea, eb⟩ => ?_
          subst ea; subst eb
          cases hb : bitN m i with
          | false =>
            refine walk (both q0 (both q1 q7)) ?_
            exact Roundq.normal (64 - (i + 1)) (by omega) ⟨i + 1, by omega, rfl, rfl, by simp [q0], by simp [q1], by simp, lt_step hlo2 (fun h => by rw [hb] at h; exact absurd h.1 (by simp))⟩
          | true =>
            refine walk (both q0 (both q1 q7)) ?_
            refine (bit39_ok o i hlt H3).mono fun v H4 _ ⟨ea, eb⟩ => ?_
            subst ea; subst eb
            cases hb2 : bitN o i with
            | true =>
              refine walk (both q0 (both q1 q7)) ?_
              exact Roundq.normal (64 - (i + 1)) (by omega) ⟨i + 1, by omega, rfl, rfl, by simp [q0], by simp [q1], by simp, lt_step hlo2 (fun h => by rw [hb2] at h; exact absurd h.2 (by simp))⟩
            | false =>
              have hr : maskR o m = (0, 93) := by unfold maskR; rw [if_neg hnb, if_pos ⟨i, hlt, hb, hb2⟩]
              rw [hr]
              refine walk (both q0 (both q1 q7)) ?_
              exact ⟨rfl, rfl⟩
        · obtain rfl : i = 64 := by omega
          have hno : ¬ maskOver o m := fun ⟨i, hi, h⟩ => hlo2 i hi h
          have hr : maskR o m = (m, 0) := by unfold maskR; rw [if_neg hnb, if_neg hno]
          rw [hr]
          refine walk (both q0 (both q1 q7)) ?_
          exact ⟨rfl, rfl⟩
end Go.Abs

/- Chapter 13: lists that come in; what a whitelist is; WhiteHas. -/
namespace Go.Abs
open Go.Proofs
set_option maxRecDepth 100000
set_option linter.unusedVariables false
set_option linter.unusedSimpArgs false

theorem own29_ok {H : Heap} {a : Bool} {v : AV} {l : List Int} (h : Is H v l) (hL : l.length ≤ 100000) : Cl Try.prog pr13 38 [.agg [.bool a, v]] H fun r H' => ∃ w, r = .agg [.bool a, w] ∧ FreshG H H' 3 1 w l.length (ints l) := by
  obtain ⟨va, cap, ex, rfl, hc, hex⟩ := h.form
  refine Cl.enter Try.func38 rfl rfl Try.ntmps38 (by simp) ?_
  refine walk none0 ?_
  refine Wq.regionM [(2, 0), (3, 0), (4, 0), (5, 0), (0, 0), (1, 2), (6, 0), (7, 0)] (by kernel_rfl) ?_
  refine mwalk none0 ?_
  refine Dq.appendG (own := (.empty _)) (new := ints l) (q := l.length) rfl met_none (by simp (disch := omega) [-getElem?_pos, wrapI64, tdivN, tmodN, ipos, ineg, dpos, dneg, slc_l, slc_h, slc_lh, slc_hm, slc_lhm, slc_0, slcR_some, slcR_none, cutS_ok, cutA_ok, byteAt_ok]; first | done | (repeat' (first | rfl | apply And.intro))) ⟨_, rfl, by simp; first | done | (repeat' (first | rfl | apply And.intro))⟩ rfl (by kernel_rfl) (by kernel_rfl) ((Sl.push (Sl.push (Sl.push h _) _) _).src') (by simp) (ints_one l) (by omega) (by omega) fun w1 H1 o1 b1 s1 => ?_
  have hn1 := b1.1
  simp at hn1
  have hg1 : H1.get H.next = some (.cells [.bool a, .slice va l.length cap ex] 26 true false) := by
    rw [b1.2.2 H.next (by simp <;> omega) (by simp [slBlock] <;> omega)]
    simp (disch := omega) [ineg]
  have hg2 : H1.get (H.next + 1) = some (.cells [.bool false, .slice none 0 0 none] 26 true false) := by
    rw [b1.2.2 (H.next + 1) (by simp <;> omega) (by simp [slBlock] <;> omega)]
    simp (disch := omega) [ineg]
  rw [Nat.zero_add, List.nil_append] at o1
  have f1 : FreshG H H1 3 1 w1 l.length (ints l) := (FreshG.made (H0 := H) (cs := []) (n := 0) (elem := 3) (s := 1) (((Upd.rfl.push _).push _).push _) (by simp) (b := H.next + 1 + 1) (by omega) (by simp) (by simp)).app o1 b1 s1
  obtain ⟨wa1, wc1, wx1, rfl, hwc, hwx⟩ := o1.form
  refine mwalk (both hg1 hg2) ?_
  refine walk none0 ?_
  exact ⟨_, rfl, f1.put _ (by omega) (by omega) (by rcases s1 with e | e <;> rw [e] <;> simp [slBlock] <;> omega)⟩
/-- A list that can be a whitelist's. -/
def okAt (l : List Int) (i : Nat) : Prop := ∀ c, l[i]? = some c → 0 ≤ c ∧ (0 < i → ∀ b, l[i - 1]? = some b → b < c)
def okL (l : List Int) : Prop := ∀ i < l.length, okAt l i
open Classical in
noncomputable def canP (a : Bool) (l : List Int) : Bool := if a then decide (l = []) else decide (okL l ∧ l.length ≤ 32)
theorem can34_ok {H : Heap} {a : Bool} {v : AV} {l : List Int} (h : Is H v l) (hL : l.length ≤ 100000) : Cl Try.prog pr13 57 [.agg [.bool a, v]] H fun r H' => Keep H H' ∧ r = .bool (canP a l) := by
  obtain ⟨va, cap, ex, rfl, hc, hex⟩ := h.form
  have kB : Keep H (H.push (.cells [.bool a, .slice va l.length cap ex] 26 true false)) := Upd.rfl.push _
  unfold canP
  refine Cl.enter Try.func57 rfl rfl Try.ntmps57 (by simp) ?_
  cases a with
  | true =>
    by_cases h0 : l = []
    · subst h0
      refine walk none0 ?_
      exact ⟨kB, by simp⟩
    · have hl : l.length ≠ 0 := fun e => h0 (List.eq_nil_of_length_eq_zero e)
      refine walk none0 ?_
      exact ⟨kB, by simp [h0]⟩
  | false =>
    have gB : (H.push (.cells [.bool false, .slice va l.length cap ex] 26 true false)).get H.next = some (.cells [.bool false, .slice va l.length cap ex] 26 true false) := by simp
    have hB := h.kept kB
    refine walk none0 ?_
    generalize H.push (.cells [.bool false, .slice va l.length cap ex] 26 true false) = H1 at *
    refine Wq.loop (fun m e H' => ∃ i : Nat, i ≤ l.length ∧ m = l.length - i ∧ H' = H1 ∧ e 1 = .ptr (some (H.next, 0)) ∧ e 12 = .slice va l.length cap ex ∧ e 13 = .int .i64 l.length ∧ e 14 = .int .i64 i ∧ ∀ j < i, okAt l j) l.length ?_ ?_
    · exact ⟨0, by omega, by omega, rfl, by simp, by simp, by simp, by simp, fun j hj => by omega⟩
    · rintro m e H' ⟨i, hi, rfl, rfl, g1, g12, g13, g14, hlo⟩
      by_cases hlt : i < l.length
      · obtain ⟨c, hcx⟩ := geti_lt hlt
        obtain ⟨b, o, cc, t, w, mk, rfl, _, hb1, hb2, hb3, hb4⟩ := int_at hB hcx
        by_cases hneg : c < 0
        · have hno : ¬ (okL l ∧ l.length ≤ 32) := fun hh => by have := (hh.1 i hlt c hcx).1; omega
          refine walk (both g1 (both g12 (both g13 (both g14 (both hlt (both hb2 (both hb3 (both hb4 (both hneg gB))))))))) ?_
          exact ⟨kB, by simp [hno]⟩
        · by_cases h0 : 0 < i
          · have h0I : 0 < (i : Int) := by omega
            obtain ⟨d, hdx⟩ := geti_lt (l := l) (i := i - 1) (by omega)
            obtain ⟨b', o', cc', t', w', mk', e', _, _, hb2', hb3', hb5⟩ := int_at hB hdx
            injection e' with e'; injection e' with e1 e2; subst e1; subst e2
            rw [hb2] at hb2'; injection hb2' with e'; injection e' with e1 e2 e4 e5; subst e1; subst e2; subst e4; subst e5
            have hiI : ((i : Int) - 1) = ((i - 1 : Nat) : Int) := by omega
            by_cases hle : c ≤ d
            · have hno : ¬ (okL l ∧ l.length ≤ 32) := fun hh => by have := (hh.1 i hlt c hcx).2 h0 d hdx; omega
              refine walk (both g1 (both g12 (both g13 (both g14 (both hlt (both hb2 (both hb3 (both hb4 (both hneg (both gB (both h0I (both hb3' (both hb5 hle))))))))))))) ?_
              exact ⟨kB, by simp [hno]⟩
            · have hok : okAt l i := fun c' hc' => by
                rw [hcx] at hc'; injection hc' with hc'; subst hc'
                exact ⟨by omega, fun _ b hb => by rw [hdx] at hb; injection hb with hb; subst hb; omega⟩
              refine walk (both g1 (both g12 (both g13 (both g14 (both hlt (both hb2 (both hb3 (both hb4 (both hneg (both gB (both h0I (both hb3' (both hb5 hle))))))))))))) ?_
              exact Roundq.normal (l.length - (i + 1)) (by omega) ⟨i + 1, by omega, rfl, rfl, by simp [g1], by simp [g12], by simp [g13], by simp, lt_step hlo hok⟩
          · have h0I : ¬ 0 < (i : Int) := by omega
            have hok : okAt l i := fun c' hc' => by
              rw [hcx] at hc'; injection hc' with hc'; subst hc'
              exact ⟨by omega, fun h => by omega⟩
            refine walk (both g1 (both g12 (both g13 (both g14 (both hlt (both hb2 (both hb3 (both hb4 (both hneg (both gB h0I)))))))))) ?_
            exact Roundq.normal (l.length - (i + 1)) (by omega) ⟨i + 1, by omega, rfl, rfl, by simp [g1], by simp [g12], by simp [g13], by simp, lt_step hlo hok⟩
      · obtain rfl : i = l.length := by omega
        have hok : okL l := hlo
        by_cases h32 : l.length ≤ 32
        · have h32I : (l.length : Int) ≤ 32 := by omega
          refine walk (both g1 (both g12 (both g13 (both g14 (both gB h32I))))) ?_
          exact ⟨kB, by simp [hok, h32]⟩
        · have h32I : ¬ (l.length : Int) ≤ 32 := by omega
          refine walk (both g1 (both g12 (both g13 (both g14 (both gB h32I))))) ?_
          exact ⟨kB, by simp [h32]⟩
theorem refCan15_ok {H : Heap} {a : Bool} {v : AV} {l : List Int} (h : Is H v l) (hL : l.length ≤ 100000) : Cl Try.prog pr13 32 [.agg [.bool a, v]] H fun r H' => Keep H H' ∧ r = .bool (canP a l) := by
  obtain ⟨va, cap, ex, rfl, hc, hex⟩ := h.form
  have kB : Keep H (H.push (.cells [.bool a, .slice va l.length cap ex] 26 true false)) := Upd.rfl.push _
  have gB : (H.push (.cells [.bool a, .slice va l.length cap ex] 26 true false)).get H.next = some (.cells [.bool a, .slice va l.length cap ex] 26 true false) := by simp
  have hB := h.kept kB
  unfold canP
  refine Cl.enter Try.func32 rfl rfl Try.ntmps32 (by simp) ?_
  refine walk none0 ?_
  generalize H.push (.cells [.bool a, .slice va l.length cap ex] 26 true false) = H1 at *
  refine Wq.loop (fun m e H' => ∃ i : Nat, i ≤ l.length ∧ m = l.length - i ∧ H' = H1 ∧ e 1 = .ptr (some (H.next, 0)) ∧ e 3 = .int .i64 i ∧ (0 < i → a = false) ∧ (∀ j < i, okAt l j) ∧ i ≤ 32) l.length ?_ ?_
  · exact ⟨0, by omega, by omega, rfl, by simp, by simp, by simp, fun j hj => by omega, by omega⟩
  · rintro m e H' ⟨i, hi, rfl, rfl, g1, g3, hall, hlo, hi32⟩
    by_cases hlt : i < l.length
    · obtain ⟨c, hcx⟩ := geti_lt hlt
      obtain ⟨b, o, cc, t, w, mk, rfl, _, hb1, hb2, hb3, hb4⟩ := int_at hB hcx
      have hne : l ≠ [] := by rintro rfl; simp at hlt
      cases a with
      | true =>
        refine walk (both g1 (both g3 (both hlt gB))) ?_
        refine Wq.regionD [0, 1, 2, 3, 4, 5, 6, 7, 8, 9, 10, 11, 12, 13, 14, 15, 16, 17, 18, 19, 20, 21, 22, 23, 24, 25, 26, 27, 28, 29, 30, 31] (by kernel_rfl) ?_
        refine walk (both g1 (both g3 (both hlt gB))) ?_
        exact ⟨kB, by simp [hne]⟩
      | false =>
        by_cases hneg : c < 0
        · have hno : ¬ (okL l ∧ l.length ≤ 32) := fun hh => by have := (hh.1 i hlt c hcx).1; omega
          refine walk (both g1 (both g3 (both hlt gB))) ?_
          refine Wq.regionD [0, 1, 2, 3, 4, 5, 6, 7, 8, 9, 10, 11, 12, 13, 14, 15, 16, 17, 18, 19, 20, 21, 22, 23, 24, 25, 26, 27, 28, 29, 30, 31] (by kernel_rfl) ?_
          refine walk (both g1 (both g3 (both hlt (both gB (both hb2 (both hb3 (both hb4 hneg))))))) ?_
          exact ⟨kB, by simp [hno]⟩
        · by_cases h0 : 0 < i
          · have h0I : 0 < (i : Int) := by omega
            obtain ⟨d, hdx⟩ := geti_lt (l := l) (i := i - 1) (by omega)
            obtain ⟨b', o', cc', t', w', mk', e', _, _, hb2', hb3', hb5⟩ := int_at hB hdx
            injection e' with e'; injection e' with e1 e2; subst e1; subst e2
            rw [hb2] at hb2'; injection hb2' with e'; injection e' with e1 e2 e4 e5; subst e1; subst e2; subst e4; subst e5
            by_cases hle : c ≤ d
            · have hno : ¬ (okL l ∧ l.length ≤ 32) := fun hh => by have := (hh.1 i hlt c hcx).2 h0 d hdx; omega
              refine walk (both g1 (both g3 (both hlt gB))) ?_
              refine Wq.regionD [0, 1, 2, 3, 4, 5, 6, 7, 8, 9, 10, 11, 12, 13, 14, 15, 16, 17, 18, 19, 20, 21, 22, 23, 24, 25, 26, 27, 28, 29, 30, 31] (by kernel_rfl) ?_
              refine walk (both g1 (both g3 (both hlt (both gB (both hb2 (both hb3 (both hb4 (both hneg (both h0I (both hb3' (both hb5 hle))))))))))) ?_
              exact ⟨kB, by simp [hno]⟩
            · have hok : okAt l i := fun c' hc' => by
                rw [hcx] at hc'; injection hc' with hc'; subst hc'
                exact ⟨by omega, fun _ b hb => by rw [hdx] at hb; injection hb with hb; subst hb; omega⟩
              by_cases h32 : 32 ≤ i
              · have h32I : 32 ≤ (i : Int) := by omega
                have hno : ¬ (okL l ∧ l.length ≤ 32) := fun hh => by omega
                refine walk (both g1 (both g3 (both hlt gB))) ?_
                refine Wq.regionD [0, 1, 2, 3, 4, 5, 6, 7, 8, 9, 10, 11, 12, 13, 14, 15, 16, 17, 18, 19, 20, 21, 22, 23, 24, 25, 26, 27, 28, 29, 30, 31] (by kernel_rfl) ?_
                refine walk (both g1 (both g3 (both hlt (both gB (both hb2 (both hb3 (both hb4 (both hneg (both h0I (both hb3' (both hb5 (both hle h32I)))))))))))) ?_
                exact ⟨kB, by simp [hno]⟩
              · have h32I : ¬ 32 ≤ (i : Int) := by omega
                refine walk (both g1 (both g3 (both hlt gB))) ?_
                refine Wq.regionD [0, 1, 2, 3, 4, 5, 6, 7, 8, 9, 10, 11, 12, 13, 14, 15, 16, 17, 18, 19, 20, 21, 22, 23, 24, 25, 26, 27, 28, 29, 30, 31] (by kernel_rfl) ?_
                refine walk (both g1 (both g3 (both hlt (both gB (both hb2 (both hb3 (both hb4 (both hneg (both h0I (both hb3' (both hb5 (both hle h32I)))))))))))) ?_
                exact Roundq.normal (l.length - (i + 1)) (by omega) ⟨i + 1, by omega, rfl, rfl, by simp [g1], by simp, fun _ => rfl, lt_step hlo hok, by omega⟩
          · have h0I : ¬ 0 < (i : Int) := by omega
            have h32I : ¬ 32 ≤ (i : Int) := by omega
            have hok : okAt l i := fun c' hc' => by
              rw [hcx] at hc'; injection hc' with hc'; subst hc'
              exact ⟨by omega, fun h => by omega⟩
            refine walk (both g1 (both g3 (both hlt gB))) ?_
            refine Wq.regionD [0, 1, 2, 3, 4, 5, 6, 7, 8, 9, 10, 11, 12, 13, 14, 15, 16, 17, 18, 19, 20, 21, 22, 23, 24, 25, 26, 27, 28, 29, 30, 31] (by kernel_rfl) ?_
            refine walk (both g1 (both g3 (both hlt (both gB (both hb2 (both hb3 (both hb4 (both hneg (both h0I h32I))))))))) ?_
            exact Roundq.normal (l.length - (i + 1)) (by omega) ⟨i + 1, by omega, rfl, rfl, by simp [g1], by simp, fun _ => rfl, lt_step hlo hok, by omega⟩
    · obtain rfl : i = l.length := by omega
      have hok : okL l := hlo
      cases a with
      | true =>
        have h0 : l = [] := by
          cases l with
          | nil => rfl
          | cons x r => exact absurd (hall (by simp)) (by simp)
        subst h0
        refine walk (both g1 (both g3 gB)) ?_
        exact ⟨kB, by simp⟩
      | false =>
        refine walk (both g1 (both g3 gB)) ?_
        exact ⟨kB, by simp [hok, hi32]⟩
end Go.Abs

/- Chapter 13: WhiteHas, walked. -/
namespace Go.Abs
open Go.Proofs
set_option maxRecDepth 100000
set_option linter.unusedVariables false
set_option linter.unusedSimpArgs false

theorem in31_ok {H : Heap} {v : AV} {l : List Int} (h : Is H v l) (hL : l.length ≤ 100000) (n : Int) : Cl Try.prog pr13 67 [v, .int .i64 n] H fun r H' => H' = H ∧ r = .bool (decide (n ∈ l)) := by
  obtain ⟨va, cap, ex, rfl, hc, hex⟩ := h.form
  refine Cl.enter Try.func67 rfl rfl Try.ntmps67 (by simp) ?_
  refine walk none0 ?_
  refine Wq.loop (fun m e H' => ∃ i : Nat, i ≤ l.length ∧ m = l.length - i ∧ H' = H ∧ e 0 = .slice va l.length cap ex ∧ e 1 = .int .i64 n ∧ e 5 = .int .i64 i ∧ ∀ j < i, l[j]? ≠ some n) l.length ?_ ?_
  · exact ⟨0, by omega, by omega, rfl, by simp, by simp, by simp, fun j hj => by omega⟩
  · rintro m e H' ⟨i, hi, rfl, rfl, g0, g1, g5, hlo⟩
    by_cases hlt : i < l.length
    · obtain ⟨c, hcx⟩ := geti_lt hlt
      obtain ⟨b, o, cc, t, w, mk, rfl, _, hb1, hb2, hb3, hb4⟩ := int_at h hcx
      by_cases hn : c = n
      · subst hn
        refine walk (both g0 (both g1 (both g5 (both hlt (both hb2 (both hb3 hb4)))))) ?_
        exact ⟨rfl, by rw [decide_eq_true (List.mem_of_getElem? hcx)]⟩
      · refine walk (both g0 (both g1 (both g5 (both hlt (both hb2 (both hb3 (both hb4 hn))))))) ?_
        exact Roundq.normal (l.length - (i + 1)) (by omega) ⟨i + 1, by omega, rfl, rfl, by simp [g0], by simp [g1], by simp, lt_step hlo (fun e => by rw [hcx] at e; injection e with e; exact hn e)⟩
    · obtain rfl : i = l.length := by omega
      have hno : n ∉ l := fun hm => by
        obtain ⟨j, hj⟩ := List.mem_iff_getElem?.1 hm
        exact hlo j (List.getElem?_eq_some_iff.1 hj).1 hj
      refine walk (both g0 (both g1 g5)) ?_
      exact ⟨rfl, by rw [decide_eq_false hno]⟩
theorem nan52_ok (x : Int) (H : Heap) : Cl Try.prog pr13 84 [.int .i64 x] H fun r H' => r = .bool false ∧ H' = H := by
  refine Cl.enter Try.func84 rfl rfl Try.ntmps84 (by simp) ?_
  refine walk none0 ?_
  exact ⟨rfl, rfl⟩
theorem less51_ok (x y : Int) (H : Heap) : Cl Try.prog pr13 79 [.int .i64 x, .int .i64 y] H fun r H' => r = .bool (decide (x < y)) ∧ H' = H := by
  have n59 : ∀ (x : Int) (H : Heap), Cl Try.prog pr13 90 [.int .i64 x] H fun r H' => r = .bool false ∧ H' = H := fun x H => by
    refine Cl.enter Try.func90 rfl rfl Try.ntmps90 (by simp) ?_
    refine walk none0 ?_
    exact ⟨rfl, rfl⟩
  refine Cl.enter Try.func79 rfl rfl Try.ntmps79 (by simp) ?_
  refine walk none0 ?_
  refine (n59 x H).mono fun v H1 _ ⟨ea, eb⟩ => ?_
  subst ea; subst eb
  refine walk none0 ?_
  exact ⟨rfl, rfl⟩
theorem sorted_lt {l : List Int} (h : okL l) : ∀ {i j : Nat} {a b : Int}, i < j → l[i]? = some a → l[j]? = some b → a < b := by
  intro i j
  induction j with
  | zero => intro a b hij; omega
  | succ j ih =>
    intro a b hij ha hb
    have hj := (List.getElem?_eq_some_iff.1 hb).1
    obtain ⟨c, hc⟩ := geti_lt (l := l) (i := j) (by omega)
    have h1 := (h (j + 1) hj b hb).2 (by omega) c (by simpa using hc)
    rcases Nat.lt_or_ge i j with h' | h'
    · have := ih h' ha hc; omega
    · obtain rfl : i = j := by omega
      rw [ha] at hc; injection hc with hc; omega
theorem search41_ok {H : Heap} {v : AV} {l : List Int} (h : Is H v l) (hL : l.length ≤ 100000) (hok : okL l) (n : Int) : Cl Try.prog pr13 72 [v, .int .i64 n] H fun r H' => H' = H ∧ ∃ k : Int, r = .tuple [.int .i64 k, .bool (decide (n ∈ l))] := by
  obtain ⟨va, cap, ex, rfl, hc, hex⟩ := h.form
  refine Cl.enter Try.func72 rfl rfl Try.ntmps72 (by simp) ?_
  refine walk none0 ?_
  refine Wq.loop (fun m e H' => ∃ i j : Nat, i ≤ j ∧ j ≤ l.length ∧ m = j - i ∧ H' = H ∧ e 0 = .slice va l.length cap ex ∧ e 1 = .int .i64 n ∧ e 6 = .int .i64 l.length ∧ e 7 = .int .i64 i ∧ e 8 = .int .i64 j ∧ (∀ (k : Nat) (a : Int), k < i → l[k]? = some a → a < n) ∧ (∀ (k : Nat) (a : Int), j ≤ k → l[k]? = some a → n ≤ a)) l.length ?_ ?_
  · exact ⟨0, l.length, by omega, by omega, by omega, rfl, by simp, by simp, by simp, by simp, by simp, fun k a hk => by omega, fun k a hk ha => by have := (List.getElem?_eq_some_iff.1 ha).1; omega⟩
  · rintro m e H' ⟨i, j, hij, hj, rfl, rfl, g0, g1, g6, g7, g8, hlo, hhi⟩
    by_cases hlt : i < j
    · obtain ⟨md, hmd⟩ : ∃ md, md = (i + j) / 2 := ⟨_, rfl⟩
      obtain ⟨c, hcx⟩ := geti_lt (l := l) (i := md) (by omega)
      obtain ⟨b, o, cc, t, w, mk, rfl, _, hb1, hb2, hb3, hb4⟩ := int_at h hcx
      have hltI : (i : Int) < j := by omega
      have hm1 : IntKind.u64.wrap ((i : Int) + j) = (i : Int) + j := by simp [IntKind.wrap, IntKind.signed, IntKind.bits]; omega
      have hm2 : ((i : Int) + j).fdiv (2 ^ min 1 IntKind.u64.bits) = (md : Int) := by
        rw [show min 1 IntKind.u64.bits = 1 from rfl, Int.fdiv_eq_ediv_of_nonneg _ (by omega)]
        omega
      have hm3 : IntKind.i64.wrap (md : Int) = md := by simp [IntKind.wrap, IntKind.signed, IntKind.bits]; omega
      have hmdl : md < l.length := by omega
      have hmdI : (md : Int) < l.length := by omega
      refine walk (both g0 (both g1 (both g6 (both g7 (both g8 (both hltI (both hm1 (both hm2 (both hm3 (both hmdl (both hmdI (both hb2 (both hb3 hb4))))))))))))) ?_
      refine (less51_ok c n H').mono fun v H1 _ ⟨ea, eb⟩ => ?_
      subst ea; subst eb
      by_cases hcn : c < n
      · refine walk (both g0 (both g1 (both g6 (both g7 (both g8 hcn))))) ?_
        refine Roundq.normal (j - (md + 1)) (by omega) ⟨md + 1, j, by omega, hj, rfl, rfl, by simp [g0], by simp [g1], by simp [g6], by simp, by simp [g8], fun k a hk ha => ?_, hhi⟩
        rcases Nat.lt_or_ge k md with h' | h'
        · have := sorted_lt hok h' ha hcx; omega
        · obtain rfl : k = md := by omega
          rw [hcx] at ha; injection ha with ha; omega
      · refine walk (both g0 (both g1 (both g6 (both g7 (both g8 hcn))))) ?_
        refine Roundq.normal (md - i) (by omega) ⟨i, md, by omega, by omega, rfl, rfl, by simp [g0], by simp [g1], by simp [g6], by simp [g7], by simp, hlo, fun k a hk ha => ?_⟩
        rcases Nat.lt_or_ge md k with h' | h'
        · have := sorted_lt hok h' hcx ha; omega
        · obtain rfl : k = md := by omega
          rw [hcx] at ha; injection ha with ha; omega
    · obtain rfl : i = j := by omega
      by_cases hil : i < l.length
      · obtain ⟨c, hcx⟩ := geti_lt hil
        obtain ⟨b, o, cc, t, w, mk, rfl, _, hb1, hb2, hb3, hb4⟩ := int_at h hcx
        have hilI : (i : Int) < l.length := by omega
        by_cases hcn : c = n
        · subst hcn
          have hm : c ∈ l := List.mem_of_getElem? hcx
          rw [decide_eq_true hm]
          refine walk (both g0 (both g1 (both g6 (both g7 (both g8 (both hil (both hilI (both hb2 (both hb3 hb4))))))))) ?_
          exact ⟨rfl, _, rfl⟩
        · have hm : n ∉ l := fun hm => by
            obtain ⟨k, hk⟩ := List.mem_iff_getElem?.1 hm
            rcases Nat.lt_or_ge k i with h' | h'
            · have := hlo k n h' hk; omega
            · rcases Nat.lt_or_ge i k with h'' | h''
              · have h1 := sorted_lt hok h'' hcx hk
                have h2 := hhi i c (Nat.le_refl _) hcx
                omega
              · obtain rfl : k = i := by omega
                rw [hcx] at hk; injection hk with hk; exact hcn hk
          rw [decide_eq_false hm]
          refine walk (both g0 (both g1 (both g6 (both g7 (both g8 (both hil (both hilI (both hb2 (both hb3 (both hb4 hcn)))))))))) ?_
          refine (nan52_ok c H').mono fun v H1 _ ⟨ea, eb⟩ => ?_
          subst ea; subst eb
          refine walk g7 ?_
          exact ⟨rfl, _, rfl⟩
      · have hm : n ∉ l := fun hm => by
          obtain ⟨k, hk⟩ := List.mem_iff_getElem?.1 hm
          have hkl := (List.getElem?_eq_some_iff.1 hk).1
          have := hlo k n (by omega) hk
          omega
        have hilI : ¬ (i : Int) < l.length := by omega
        rw [decide_eq_false hm]
        refine walk (both g0 (both g1 (both g6 (both g7 (both g8 hilI))))) ?_
        exact ⟨rfl, _, rfl⟩
/-- What is in a whitelist. -/
noncomputable def hasP (a : Bool) (l : List Int) (n : Int) : Bool := canP a l && decide (0 ≤ n) && (a || decide (n ∈ l))
theorem canP_ok {a : Bool} {l : List Int} (h : canP a l = true) : okL l ∧ l.length ≤ 100000 := by
  unfold canP at h
  cases a with
  | true =>
    simp at h
    subst h
    exact ⟨fun i hi => by simp at hi, by simp⟩
  | false =>
    simp at h
    exact ⟨h.1, by omega⟩
theorem has30_ok {H : Heap} {a : Bool} {v : AV} {l : List Int} (h : Is H v l) (hL : l.length ≤ 100000) (n : Int) : Cl Try.prog pr13 66 [.agg [.bool a, v], .int .i64 n] H fun r H' => Keep H H' ∧ r = .bool (hasP a l n) := by
  obtain ⟨va, cap, ex, rfl, hc, hex⟩ := h.form
  have kB : Keep H (H.push (.cells [.bool a, .slice va l.length cap ex] 26 true false)) := Upd.rfl.push _
  have gB : (H.push (.cells [.bool a, .slice va l.length cap ex] 26 true false)).get H.next = some (.cells [.bool a, .slice va l.length cap ex] 26 true false) := by simp
  have nB : H.next < (H.push (.cells [.bool a, .slice va l.length cap ex] 26 true false)).next := by simp
  have hB := h.kept kB
  unfold hasP
  refine Cl.enter Try.func66 rfl rfl Try.ntmps66 (by simp) ?_
  by_cases h0 : n < 0
  · have e : decide (0 ≤ n) = false := decide_eq_false (by omega)
    rw [e, Bool.and_false, Bool.false_and]
    refine walk h0 ?_
    exact ⟨kB, rfl⟩
  · have e : decide (0 ≤ n) = true := decide_eq_true (by omega)
    rw [e, Bool.and_true]
    refine walk h0 ?_
    generalize H.push (.cells [.bool a, .slice va l.length cap ex] 26 true false) = H1 at *
    refine (can34_ok hB hL).mono fun v H2 _ ⟨kA, ea⟩ => ?_
    subst ea
    have g2 := (kA.get nB).trans gB
    cases hcp : canP a l with
    | false =>
      refine walk none0 ?_
      exact ⟨kB.then kA, rfl⟩
    | true =>
      obtain ⟨hok, _⟩ := canP_ok hcp
      refine walk g2 ?_
      refine (search41_ok (hB.kept kA) hL hok n).mono fun v H3 _ ⟨ea, k, eb⟩ => ?_
      subst ea; subst eb
      cases hin : decide (n ∈ l) with
      | true =>
        refine walk none0 ?_
        exact ⟨kB.then kA, by simp⟩
      | false =>
        refine walk g2 ?_
        exact ⟨kB.then kA, by simp⟩
theorem refHas11_ok {H : Heap} {a : Bool} {v : AV} {l : List Int} (h : Is H v l) (hL : l.length ≤ 100000) (n : Int) : Cl Try.prog pr13 60 [.agg [.bool a, v], .int .i64 n] H fun r H' => Keep H H' ∧ r = .bool (hasP a l n) := by
  obtain ⟨va, cap, ex, rfl, hc, hex⟩ := h.form
  have kB : Keep H (H.push (.cells [.bool a, .slice va l.length cap ex] 26 true false)) := Upd.rfl.push _
  have gB : (H.push (.cells [.bool a, .slice va l.length cap ex] 26 true false)).get H.next = some (.cells [.bool a, .slice va l.length cap ex] 26 true false) := by simp
  have nB : H.next < (H.push (.cells [.bool a, .slice va l.length cap ex] 26 true false)).next := by simp
  have hB := h.kept kB
  unfold hasP
  refine Cl.enter Try.func60 rfl rfl Try.ntmps60 (by simp) ?_
  refine walk none0 ?_
  generalize H.push (.cells [.bool a, .slice va l.length cap ex] 26 true false) = H1 at *
  refine (refCan15_ok hB hL).mono fun v H2 _ ⟨kA, ea⟩ => ?_
  subst ea
  have g2 := (kA.get nB).trans gB
  cases hcp : canP a l with
  | false =>
    refine walk none0 ?_
    exact ⟨kB.then kA, rfl⟩
  | true =>
    by_cases h0 : 0 ≤ n
    · rw [decide_eq_true h0]
      cases a with
      | true =>
        refine walk (both g2 h0) ?_
        exact ⟨kB.then kA, rfl⟩
      | false =>
        refine walk (both g2 h0) ?_
        refine (in31_ok (hB.kept kA) hL n).mono fun v H3 _ ⟨ea, eb⟩ => ?_
        subst ea; subst eb
        refine walk none0 ?_
        exact ⟨kB.then kA, by simp⟩
    · rw [decide_eq_false h0]
      refine walk (both g2 h0) ?_
      exact ⟨kB.then kA, rfl⟩
end Go.Abs

/- Chapter 13: subsets, walked. -/
namespace Go.Abs
open Go.Proofs
set_option maxRecDepth 100000
set_option linter.unusedVariables false
set_option linter.unusedSimpArgs false

theorem FreshG.is {H0 H : Heap} {elem : TypeId} {v : AV} {l : List Int} (f : FreshG H0 H elem 1 v l.length (ints l)) : Is H v l := f.own.sl
theorem nums32_ok {H : Heap} {v w : AV} {l m : List Int} (h : Is H v l) (h' : Is H w m) (hL : l.length ≤ 100000) : Cl Try.prog pr13 49 [v, w] H fun r H' => r = .bool (decide (l = m)) ∧ H' = H := by
  obtain ⟨va, vc, vx, rfl, hvc, hvx⟩ := h.form
  obtain ⟨wa, wc, wx, rfl, hwc, hwx⟩ := h'.form
  refine Cl.enter Try.func49 rfl rfl Try.ntmps49 (by simp) ?_
  by_cases hlen : l.length = m.length
  · have hlenI : (l.length : Int) = m.length := by omega
    refine walk hlenI ?_
    refine Wq.loop (fun k e H' => ∃ i : Nat, i ≤ l.length ∧ k = l.length - i ∧ H' = H ∧ e 0 = .slice va l.length vc vx ∧ e 1 = .slice wa m.length wc wx ∧ e 5 = .int .i64 i ∧ ∀ j < i, l[j]? = m[j]?) l.length ?_ ?_
    · exact ⟨0, by omega, by omega, rfl, by simp, by simp, by simp, fun j hj => by omega⟩
    · rintro k e H' ⟨i, hi, rfl, rfl, g0, g1, g5, hlo⟩
      by_cases hlt : i < l.length
      · have hlt' : i < m.length := by omega
        obtain ⟨x, hx⟩ := geti_lt hlt
        obtain ⟨y, hy⟩ := geti_lt hlt'
        obtain ⟨b, o, cc, t, w, mk, rfl, _, hb1, hb2, hb3, hb4⟩ := int_at h hx
        obtain ⟨b', o', cc', t', w', mk', rfl, _, hb1', hb2', hb3', hb4'⟩ := int_at h' hy
        by_cases hxy : x = y
        · subst hxy
          refine walk (both g0 (both g1 (both g5 hlt))) ?_
          refine Wq.regionD [0, 1, 2, 3, 4, 5, 6, 7, 8] (by kernel_rfl) ?_
          refine walk (both g0 (both g1 (both g5 (both hlt (both hlt' (both hb2 (both hb3 (both hb4 (both hb2' (both hb3' hb4')))))))))) ?_
          exact Roundq.normal (l.length - (i + 1)) (by omega) ⟨i + 1, by omega, rfl, rfl, by simp [g0], by simp [g1], by simp, lt_step hlo (by rw [hx, hy])⟩
        · have hne : l ≠ m := by rintro rfl; rw [hx] at hy; injection hy with hy; exact hxy hy
          refine walk (both g0 (both g1 (both g5 hlt))) ?_
          refine Wq.regionD [0, 1, 2, 3, 4, 5, 6, 7, 8] (by kernel_rfl) ?_
          refine walk (both g0 (both g1 (both g5 (both hlt (both hlt' (both hb2 (both hb3 (both hb4 (both hb2' (both hb3' (both hb4' hxy))))))))))) ?_
          exact ⟨by rw [decide_eq_false hne], rfl⟩
      · obtain rfl : i = l.length := by omega
        have heq : l = m := by
          apply List.ext_getElem? 
          intro j
          rcases Nat.lt_or_ge j l.length with h1 | h1
          · exact hlo j h1
          · rw [List.getElem?_eq_none h1, List.getElem?_eq_none (by omega)]
        refine walk (both g0 (both g1 g5)) ?_
        exact ⟨by rw [decide_eq_true heq], rfl⟩
  · have hlenI : ¬ (l.length : Int) = m.length := by omega
    have hne : l ≠ m := by rintro rfl; exact hlen rfl
    refine walk hlenI ?_
    exact ⟨by rw [decide_eq_false hne], rfl⟩
theorem same16_ok {H : Heap} {a b : Bool} {v w : AV} {l m : List Int} (h : Is H v l) (h' : Is H w m) (hL : l.length ≤ 100000) : Cl Try.prog pr13 43 [.agg [.bool a, v], .agg [.bool b, w]] H fun r H' => r = .bool (decide (a = b ∧ l = m)) ∧ Keep H H' := by
  obtain ⟨va, vc, vx, rfl, hvc, hvx⟩ := h.form
  obtain ⟨wa, wc, wx, rfl, hwc, hwx⟩ := h'.form
  have kB : Keep H ((H.push (.cells [.bool a, .slice va l.length vc vx] 26 true false)).push (.cells [.bool b, .slice wa m.length wc wx] 26 true false)) := (Upd.rfl.push _).push _
  refine Cl.enter Try.func43 rfl rfl Try.ntmps43 (by simp) ?_
  by_cases hab : a = b
  · subst hab
    refine walk none0 ?_
    refine (nums32_ok (h.kept kB) (h'.kept kB) hL).mono fun r H1 _ ⟨ea, eb⟩ => ?_
    subst ea; subst eb
    refine walk none0 ?_
    exact ⟨by simp, kB⟩
  · refine walk hab ?_
    exact ⟨by simp [hab], kB⟩
theorem clo50_ok {H : Heap} {p : Nat} {a : Bool} {va : Option (Nat × Nat)} {vc : Nat} {vx : Option Nat} {l : List Int} (hg : H.get p = some (.cells [.bool a, .slice va l.length vc vx] 26 true false)) (h : Is H (.slice va l.length vc vx) l) (hL : l.length ≤ 100000) (n : Int) :
    Cl Try.prog pr13 65 [.int .i64 n, .ptr (some (p, 0))] H fun r H' => Keep H H' ∧ r = .bool (!(hasP a l n)) := by
  refine Cl.enter Try.func65 rfl rfl Try.ntmps65 (by simp) ?_
  refine walk hg ?_
  refine (has30_ok h hL n).mono fun r H1 _ ⟨kA, ea⟩ => ?_
  subst ea
  refine walk none0 ?_
  exact ⟨kA, rfl⟩
theorem any58_ok {H : Heap} {p : Nat} {a : Bool} {va : Option (Nat × Nat)} {vc : Nat} {vx : Option Nat} {l m : List Int} (hg : H.get p = some (.cells [.bool a, .slice va l.length vc vx] 26 true false)) (hp : p < H.next) (h : Is H (.slice va l.length vc vx) l) (hL : l.length ≤ 100000)
    {w : AV} (hw : Is H w m) (hM : m.length ≤ 100000) : Cl Try.prog pr13 71 [w, .func (.func 65) [] [.ptr (some (p, 0))]] H fun r H' => Keep H H' ∧ ∃ z : Int, r = .int .i64 z ∧ (0 ≤ z ↔ ∃ x ∈ m, hasP a l x = false) := by
  obtain ⟨wa, wc, wx, rfl, hwc, hwx⟩ := hw.form
  refine Cl.enter Try.func71 rfl rfl Try.ntmps71 (by simp) ?_
  refine walk none0 ?_
  refine Wq.loop (fun k e H' => ∃ i : Nat, i ≤ m.length ∧ k = m.length - i ∧ Keep H H' ∧ e 0 = .slice wa m.length wc wx ∧ e 1 = .func (.func 65) [] [.ptr (some (p, 0))] ∧ e 7 = .int .i64 m.length ∧ e 8 = .int .i64 i ∧ ∀ j < i, ∀ x, m[j]? = some x → hasP a l x = true) m.length ?_ ?_
  · exact ⟨0, by omega, by omega, Upd.rfl, by simp, by simp, by simp, by simp, fun j hj => by omega⟩
  · rintro k e H' ⟨i, hi, rfl, kA, g0, g1, g7, g8, hlo⟩
    by_cases hlt : i < m.length
    · obtain ⟨x, hx⟩ := geti_lt hlt
      obtain ⟨b, o, cc, t, w, mk, rfl, _, hb1, hb2, hb3, hb4⟩ := int_at (hw.kept kA) hx
      refine walk (both g0 (both g1 (both g7 (both g8 (both hlt (both hb2 (both hb3 hb4))))))) ?_
      refine (clo50_ok ((kA.get hp).trans hg) (h.kept kA) hL x).mono fun r H1 _ ⟨kB, ea⟩ => ?_
      subst ea
      cases hh : hasP a l x with
      | false =>
        refine walk g8 ?_
        exact ⟨kA.then kB, _, rfl, ⟨fun _ => ⟨x, List.mem_of_getElem? hx, hh⟩, fun _ => by omega⟩⟩
      | true =>
        refine walk g8 ?_
        exact Roundq.normal (m.length - (i + 1)) (by omega) ⟨i + 1, by omega, rfl, kA.then kB, by simp [g0], by simp [g1], by simp [g7], by simp, lt_step hlo (fun y hy => by rw [hx] at hy; injection hy with hy; subst hy; exact hh)⟩
    · obtain rfl : i = m.length := by omega
      refine walk (both g0 (both g1 (both g7 g8))) ?_
      refine ⟨kA, _, rfl, ⟨fun h => by omega, fun ⟨x, hx, hh⟩ => ?_⟩⟩
      obtain ⟨j, hj⟩ := List.mem_iff_getElem?.1 hx
      rw [hlo j (List.getElem?_eq_some_iff.1 hj).1 x hj] at hh
      cases hh
open Classical in
noncomputable def subP (a : Bool) (l : List Int) (b : Bool) (m : List Int) : Bool := canP a l && canP b m && !(a && !b) && decide (∀ x ∈ l, hasP b m x = true)
theorem subP_any {a b : Bool} {l m : List Int} (h1 : canP a l = true) (h2 : canP b m = true) (h3 : (a || b) = true) : subP a l b m = b := by
  unfold subP
  rw [h1, h2]
  cases b with
  | true =>
    have : ∀ x ∈ l, hasP true m x = true := by
      intro x hx
      unfold hasP
      rw [h2]
      have h0 : 0 ≤ x := by
        obtain ⟨j, hj⟩ := List.mem_iff_getElem?.1 hx
        exact ((canP_ok h1).1 j (List.getElem?_eq_some_iff.1 hj).1 x hj).1
      simp [h0]
    rw [decide_eq_true this]
    simp
  | false =>
    have ha : a = true := by simpa using h3
    subst ha
    simp
theorem subset40_ok {H : Heap} {a b : Bool} {v w : AV} {l m : List Int} (h : Is H v l) (h' : Is H w m) (hL : l.length ≤ 100000) (hM : m.length ≤ 100000) : Cl Try.prog pr13 58 [.agg [.bool a, v], .agg [.bool b, w]] H fun r H' => Keep H H' ∧ r = .bool (subP a l b m) := by
  obtain ⟨va, vc, vx, rfl, hvc, hvx⟩ := h.form
  obtain ⟨wa, wc, wx, rfl, hwc, hwx⟩ := h'.form
  have kB : Keep H ((H.push (.cells [.bool a, .slice va l.length vc vx] 26 true false)).push (.cells [.bool b, .slice wa m.length wc wx] 26 true false)) := (Upd.rfl.push _).push _
  have gA : ((H.push (.cells [.bool a, .slice va l.length vc vx] 26 true false)).push (.cells [.bool b, .slice wa m.length wc wx] 26 true false)).get H.next = some (.cells [.bool a, .slice va l.length vc vx] 26 true false) := by simp (disch := omega) [ineg]
  have gB : ((H.push (.cells [.bool a, .slice va l.length vc vx] 26 true false)).push (.cells [.bool b, .slice wa m.length wc wx] 26 true false)).get (H.next + 1) = some (.cells [.bool b, .slice wa m.length wc wx] 26 true false) := by simp (disch := omega) [ineg]
  have nB : H.next + 1 < ((H.push (.cells [.bool a, .slice va l.length vc vx] 26 true false)).push (.cells [.bool b, .slice wa m.length wc wx] 26 true false)).next := by simp
  refine Cl.enter Try.func58 rfl rfl Try.ntmps58 (by simp) ?_
  refine walk none0 ?_
  generalize (H.push (.cells [.bool a, .slice va l.length vc vx] 26 true false)).push (.cells [.bool b, .slice wa m.length wc wx] 26 true false) = H1 at *
  refine (can34_ok (h.kept kB) hL).mono fun r H2 _ ⟨kA, ea⟩ => ?_
  subst ea
  have gA2 := (kA.get (by omega)).trans gA
  have gB2 := (kA.get nB).trans gB
  have n2 : H.next + 1 < H2.next := Nat.lt_of_lt_of_le nB kA.next
  cases hca : canP a l with
  | false =>
    have e : subP a l b m = false := by unfold subP; rw [hca]; rfl
    rw [e]
    refine walk none0 ?_
    exact ⟨kB.then kA, rfl⟩
  | true =>
    refine walk gB2 ?_
    refine (can34_ok (h'.kept (kB.then kA)) hM).mono fun r H3 _ ⟨kC, ea⟩ => ?_
    subst ea
    have gA3 := (kC.get (by omega)).trans gA2
    have gB3 := (kC.get n2).trans gB2
    have n3 : H.next + 1 < H3.next := Nat.lt_of_lt_of_le n2 kC.next
    have k3 := (kB.then kA).then kC
    cases hcb : canP b m with
    | false =>
      have e : subP a l b m = false := by unfold subP; rw [hca, hcb]; rfl
      rw [e]
      refine walk none0 ?_
      exact ⟨k3, rfl⟩
    | true =>
      cases a with
      | true =>
        rw [subP_any hca hcb rfl]
        refine walk (both gA3 gB3) ?_
        exact ⟨k3, rfl⟩
      | false =>
        cases b with
        | true =>
          rw [subP_any hca hcb rfl]
          refine walk (both gA3 gB3) ?_
          exact ⟨k3, rfl⟩
        | false =>
          refine walk (both gA3 gB3) ?_
          have h49 : Cl Try.prog pr13 64 [.slice va l.length vc vx, .func (.func 65) [] [.ptr (some (H.next + 1, 0))]] H3 fun r H' => Keep H3 H' ∧ ∃ z : Int, r = .bool (decide (0 ≤ z)) ∧ (0 ≤ z ↔ ∃ x ∈ l, hasP false m x = false) := by
            refine Cl.enter Try.func64 rfl rfl Try.ntmps64 (by simp) ?_
            refine walk none0 ?_
            refine (any58_ok gB3 n3 (h'.kept k3) hM (h.kept k3) hL).mono fun r H4 _ ⟨kD, z, ea, hz⟩ => ?_
            subst ea
            refine walk none0 ?_
            exact ⟨kD, z, rfl, hz⟩
          refine h49.mono fun r H4 _ ⟨kD, z, ea, hz⟩ => ?_
          subst ea
          have e : subP false l false m = !(decide (0 ≤ z)) := by
            unfold subP
            rw [hca, hcb]
            by_cases h0 : 0 ≤ z
            · obtain ⟨x, hx, hh⟩ := hz.1 h0
              have : ¬ ∀ x ∈ l, hasP false m x = true := fun hall => by rw [hall x hx] at hh; cases hh
              simp [this, h0]
            · have : ∀ x ∈ l, hasP false m x = true := fun x hx => by
                cases hh : hasP false m x with
                | true => rfl
                | false => exact absurd (hz.2 ⟨x, hx, hh⟩) h0
              rw [decide_eq_true this, decide_eq_false h0]
              rfl
          rw [e]
          refine walk none0 ?_
          exact ⟨k3.then kD, rfl⟩
end Go.Abs

/- Chapter 13: lists cloned, sorted and compacted, walked. -/
namespace Go.Abs
open Go.Proofs
set_option maxRecDepth 100000
set_option linter.unusedVariables false
set_option linter.unusedSimpArgs false

theorem clone46_ok {H : Heap} {v : AV} {l : List Int} (h : Is H v l) (hL : l.length ≤ 100000) : Cl Try.prog pr13 55 [v] H fun w H' => FreshG H H' 3 1 w l.length (ints l) := by
  obtain ⟨va, cap, ex, rfl, hc, hex⟩ := h.form
  refine Cl.enter Try.func55 rfl rfl Try.ntmps55 (by simp) ?_
  cases va with
  | none =>
    have hl0 : l = [] := by
      unfold Is Sl at h
      rcases h.2 with ⟨e, hn⟩ | ⟨b, o, c, x, e, _⟩
      · exact List.eq_nil_of_length_eq_zero hn
      · cases e
    subst hl0
    refine walk none0 ?_
    exact FreshG.nil Upd.rfl
  | some p =>
    obtain ⟨b, o⟩ := p
    refine walk none0 ?_
    refine Oq.appendG (own := (.empty _)) (new := ints l) (m := l.length) (by simp (disch := omega) [-getElem?_pos, wrapI64, tdivN, tmodN, ipos, ineg, dpos, dneg, slc_l, slc_h, slc_lh, slc_hm, slc_lhm, slc_0, slcR_some, slcR_none, cutS_ok, cutA_ok, byteAt_ok]; first | done | (repeat' (first | rfl | apply And.intro))) ⟨_, rfl, by simp; first | done | (repeat' (first | rfl | apply And.intro))⟩ rfl (by kernel_rfl) (by kernel_rfl) ((Sl.push h _).src') (by simp) (ints_one l) (by omega) (by omega) fun w1 H1 o1 b1 s1 => ?_
    rw [Nat.zero_add, List.nil_append] at o1
    have f1 : FreshG H H1 3 1 w1 l.length (ints l) := (FreshG.made (H0 := H) (cs := []) (n := 0) (elem := 3) (s := 1) (Upd.rfl.push _) (by simp) (b := H.next) (by omega) (by simp) (by simp)).app o1 b1 s1
    refine walk none0 ?_
    exact f1
theorem sort47_ok {H0 H : Heap} {v : AV} {l : List Int} (f : FreshG H0 H 3 1 v l.length (ints l)) (hL : l.length ≤ 100000) : Cl Try.prog pr13 62 [v] H fun r H' => r = .tuple [] ∧ FreshG H0 H' 3 1 v l.length (ints (sortL l)) := by
  rcases f.own with ⟨a, rfl, hn, _⟩ | ⟨b, o, c, cap, sl, rfl, h0, h1, h2, h3, h4, h5⟩
  · have hl0 : l = [] := List.eq_nil_of_length_eq_zero hn
    subst hl0
    refine Cl.prim (g := sortP) rfl (v := .tuple []) (H' := H) rfl ⟨rfl, ?_⟩
    have : sortL [] = [] := by simp [sortL]
    rw [this]
    exact f
  · have hnew := f.new b rfl
    by_cases hn : l.length = 0
    · have hl0 : l = [] := List.eq_nil_of_length_eq_zero hn
      subst hl0
      refine Cl.prim (g := sortP) rfl (v := .tuple []) (H' := H) rfl ⟨rfl, ?_⟩
      have : sortL [] = [] := by simp [sortL]
      rw [this]
      exact f
    · rw [Nat.mul_one] at h4 h5
      refine Cl.prim (g := sortP) rfl (v := .tuple []) (H' := H.set b (.cells (c.take o ++ ints (sortL l) ++ c.drop (o + l.length)) 3 true false)) ?_ ⟨rfl, ?_⟩
      · unfold sortP
        simp only [h3, h5, unint_map]
        rw [if_neg hn, if_pos ⟨by omega, h0, hL⟩]
      · have hsl : (ints (sortL l)).length = l.length := by rw [ints_len, sortL_len]
        have hT : (c.take o).length = o := List.length_take_of_le (by omega)
        refine ⟨.inr ⟨b, o, _, cap, sl, rfl, h0, h1, by simpa using h2, Heap.get_set_same _ _ _, ?_, ?_⟩, f.keep.set _ h2 (by omega), f.new⟩
        · rw [List.length_append, List.length_append, hT, hsl, List.length_drop]; omega
        · rw [List.append_assoc, List.drop_append_of_le_length (by omega), List.drop_eq_nil_of_le (by omega), List.nil_append, List.take_append_of_le_length (by omega), List.take_of_length_le (by omega)]
end Go.Abs

/- Chapter 13: slices.Compact, walked. -/
namespace Go.Abs
open Go.Proofs
set_option maxRecDepth 100000
set_option linter.unusedVariables false
set_option linter.unusedSimpArgs false

/-- The first numbers, each but where it stands behind itself. -/
def cmpF (l : List Int) : Nat → List Int
  | 0 => []
  | j + 1 => match l[j]? with
    | none => cmpF l j
    | some x => if 0 < j ∧ l[j - 1]? = some x then cmpF l j else cmpF l j ++ [x]
theorem cmpF_dup {l : List Int} {j : Nat} {x : Int} (h : l[j]? = some x) (h0 : 0 < j) (h1 : l[j - 1]? = some x) : cmpF l (j + 1) = cmpF l j := by
  simp only [cmpF, h]; rw [if_pos ⟨h0, h1⟩]
theorem cmpF_new {l : List Int} {j : Nat} {x : Int} (h : l[j]? = some x) (h1 : ¬ (0 < j ∧ l[j - 1]? = some x)) : cmpF l (j + 1) = cmpF l j ++ [x] := by
  simp only [cmpF, h]; rw [if_neg h1]
theorem take_snoc {l : List Int} {j : Nat} {x : Int} (h : l[j]? = some x) : l.take (j + 1) = l.take j ++ [x] := by
  rw [List.take_add_one, h]; rfl
theorem compact48_ok {H : Heap} {v : AV} {l : List Int} (h : OwnG H 3 1 v l.length (ints l)) (hL : l.length ≤ 100000) :
    Cl Try.prog pr13 63 [v] H fun w H' => Is H' w (cmpF l l.length) ∧ Upd (fun z => slBlock v = some z) H H' ∧ (slBlock w = slBlock v) := by
  obtain ⟨a, cap, ex, rfl, hc, hex⟩ := h.form
  refine Cl.enter Try.func63 rfl rfl Try.ntmps63 (by simp) ?_
  by_cases h2 : l.length < 2
  · have h2I : (l.length : Int) < 2 := by omega
    have e : cmpF l l.length = l := by
      rcases (by omega : l.length = 0 ∨ l.length = 1) with h' | h'
      · have : l = [] := List.eq_nil_of_length_eq_zero h'
        subst this; rfl
      · rw [h']
        obtain ⟨x, hx⟩ := geti_lt (l := l) (i := 0) (by omega)
        rw [cmpF_new hx (by omega)]
        cases l with
        | nil => simp at h'
        | cons y r =>
          have : r = [] := List.eq_nil_of_length_eq_zero (by simpa using h')
          subst this
          simp at hx; subst hx; rfl
    rw [e]
    refine walk h2I ?_
    exact ⟨h.sl, Upd.rfl, rfl⟩
  · have h2I : ¬ (l.length : Int) < 2 := by omega
    obtain ⟨b, o, c, rfl, h0, h1, hb, h3, h4, h5, h6⟩ := h.at (by omega)
    have hIs : Is H (.slice (some (b, o)) l.length cap ex) l := h.sl
    have hcs : (c.drop o).take l.length = ints l := by simpa using h6
    have hbig : o + l.length ≤ c.length := by omega
    refine walk h2I ?_
    refine Wq.loop (fun k e H' => ∃ (i : Nat), 1 ≤ i ∧ i ≤ l.length ∧ k = l.length - i ∧ e 0 = .slice (some (b, o)) l.length cap ex ∧ e 3 = .int .i64 i ∧ H' = H ∧ cmpF l i = l.take i) (l.length - 1) ?_ ?_
    · refine ⟨1, by omega, by omega, by omega, by simp, by simp, rfl, ?_⟩
      obtain ⟨x, hx⟩ := geti_lt (l := l) (i := 0) (by omega)
      rw [cmpF_new hx (by omega), take_snoc hx]
      rfl
    · rintro k e H' ⟨i, hi1, hi, rfl, g0, g3, rfl, hcf⟩
      by_cases hlt : i < l.length
      · obtain ⟨x, hx⟩ := geti_lt hlt
        obtain ⟨y, hy⟩ := geti_lt (l := l) (i := i - 1) (by omega)
        have cx : c[o + i]? = some (.int .i64 x) := by rw [sub_get hcs (by omega)]; simp [ints, hx]
        have cy : c[o + (i - 1)]? = some (.int .i64 y) := by rw [sub_get hcs (by omega)]; simp [ints, hy]
        have lx : o + i < c.length := by omega
        have ly : o + (i - 1) < c.length := by omega
        have hiI : 1 ≤ (i : Int) := by omega
        by_cases hxy : x = y
        · subst hxy
          refine walk (both g0 (both g3 hlt)) ?_
          refine Wq.regionD [0, 1, 2, 3, 4, 5, 6, 7, 8, 9] (by kernel_rfl) ?_
          refine walk (both g0 (both g3 (both hlt (both h3 (both cx (both cy (both lx (both ly hiI)))))))) ?_
          refine Wq.loop (fun k e H2 => ∃ (t q : Nat) (c' : List AV) (m : List Int), 1 ≤ q ∧ i + q ≤ l.length ∧ k = l.length - (i + q) ∧ i ≤ t ∧ t < i + q ∧ e 0 = .slice (some (b, o)) l.length cap ex ∧ e 3 = .int .i64 t ∧ e 4 = .slice (some (b, o + i)) (l.length - i) (cap - i) ex ∧ e 5 = .int .i64 q ∧
            H2.get b = some (.cells c' 3 true false) ∧ c'.length = c.length ∧ (c'.drop o).take l.length = ints m ∧ m.length = l.length ∧ m.take t = cmpF l (i + q) ∧ m.drop (i + q - 1) = l.drop (i + q - 1) ∧ Upd (fun z => z = b) H' H2) (l.length - (i + 1)) ?_ ?_
          · exact ⟨i, 1, c, l, by omega, by omega, by omega, by omega, by omega, by simp [g0], by simp [g3], by simp, by simp, h3, rfl, hcs, rfl, by rw [cmpF_dup hx (by omega) hy, hcf], rfl, Upd.rfl⟩
          · rintro k e' H2 ⟨t, q, c', m, hq1, hq, rfl, hit, htq, q0, q3, q4, q5, hg, hcl, hcm, hml, hmt, hmd, hU⟩
            have hUn := hU.next
            by_cases hlt2 : i + q < l.length
            · obtain ⟨u, hu⟩ := geti_lt hlt2
              obtain ⟨w, hw⟩ := geti_lt (l := l) (i := i + q - 1) (by omega)
              have hum : m[i + q]? = some u := by
                have : (m.drop (i + q - 1))[1]? = (l.drop (i + q - 1))[1]? := by rw [hmd]
                simpa [show i + q - 1 + 1 = i + q by omega, hu] using this
              have hwm : m[i + q - 1]? = some w := by
                have : (m.drop (i + q - 1))[0]? = (l.drop (i + q - 1))[0]? := by rw [hmd]
                simpa [hw] using this
              have cu : c'[o + i + q]? = some (.int .i64 u) := by rw [Nat.add_assoc, sub_get hcm (by omega)]; simp [ints, hum]
              have cw : c'[o + i + (q - 1)]? = some (.int .i64 w) := by rw [show o + i + (q - 1) = o + (i + q - 1) by omega, sub_get hcm (by omega)]; simp [ints, hwm]
              have lu : o + i + q < c'.length := by omega
              have lw : o + i + (q - 1) < c'.length := by omega
              have hqI : 1 ≤ (q : Int) := by omega
              have hqn : q < l.length - i := by omega
              have hqnI : (q : Int) < ((l.length - i : Nat) : Int) := by omega
              by_cases huw : u = w
              · subst huw
                refine walk (both q0 (both q3 (both q4 (both q5 hqnI)))) ?_
                refine Wq.regionD [0, 1, 2, 3, 4, 5, 6, 7, 8, 9] (by kernel_rfl) ?_
                refine walk (both q0 (both q3 (both q4 (both q5 (both hg (both cu (both cw (both lu (both lw (both hqI hqn)))))))))) ?_
                refine Roundq.normal (l.length - (i + (q + 1))) (by omega) ⟨t, q + 1, c', m, by omega, by omega, rfl, hit, by omega, by simp [q0], by simp [q3], by simp [q4], by simp, hg, hcl, hcm, hml, ?_, ?_, hU⟩
                · rw [← Nat.add_assoc, cmpF_dup hu (by omega) hw]; exact hmt
                · rw [show i + (q + 1) - 1 = (i + q - 1) + 1 by omega, ← List.drop_drop, ← List.drop_drop, hmd]
              · have htl : t < l.length := by omega
                have lt' : o + t < c'.length := by omega
                refine walk (both q0 (both q3 (both q4 (both q5 hqnI)))) ?_
                refine Wq.regionD [0, 1, 2, 3, 4, 5, 6, 7, 8, 9] (by kernel_rfl) ?_
                refine walk (both q0 (both q3 (both q4 (both q5 (both hg (both cu (both cw (both lu (both lw (both hqI (both hqn (both huw (both htl lt'))))))))))))) ?_
                refine Roundq.normal (l.length - (i + (q + 1))) (by omega) ⟨t + 1, q + 1, c'.set (o + t) (.int .i64 u), m.set t u, by omega, by omega, rfl, by omega, by omega, by simp [q0], by simp, by simp [q4], by simp, Heap.get_set_same _ _ _, by simp [hcl], ?_, by simp [hml], ?_, ?_, hU.set _ (by omega) (fun _ => rfl)⟩
                · rw [set_sub hcm htl]; simp [ints, List.map_set]
                · rw [List.take_add_one, List.getElem?_set_self (by omega), List.take_set_of_le (Nat.le_refl _), hmt, ← Nat.add_assoc, cmpF_new hu (fun hh => huw (by have := hh.2; rw [hw] at this; injection this with this; exact this.symm))]; rfl
                · rw [List.drop_set_of_lt (by omega), show i + (q + 1) - 1 = (i + q - 1) + 1 by omega, ← List.drop_drop, ← List.drop_drop, hmd]
            · have hjl : i + q = l.length := by omega
              have htl : t < l.length := by omega
              have hqnI : ¬ (q : Int) < ((l.length - i : Nat) : Int) := by omega
              refine walk (both q0 (both q3 (both q4 (both q5 (both hqnI htl))))) ?_
              refine Oq.clearG (b := b) (o := o + t) (k := l.length - t) (s := 1) (cd := c') (by simp; first | done | (repeat' (first | rfl | apply And.intro))) ⟨_, rfl, by simp; first | done | (repeat' (first | rfl | apply And.intro))⟩ (by omega) (by omega) hg (by omega) rfl ?_
              have hmi : cmpF l l.length = m.take t := by rw [hmt, hjl]
              have hmil : (m.take t).length = t := List.length_take_of_le (by omega)
              refine walk (both q0 (both q3 (both q4 (both q5 htl)))) ?_
              have hT : (c'.take (o + t)).length = o + t := List.length_take_of_le (by omega)
              have key : ∀ X : List AV, ((c'.take (o + t) ++ X).drop o).take t = ints (m.take t) := by
                intro X
                rw [List.drop_append_of_le_length (by omega), List.take_append_of_le_length (by rw [List.length_drop]; omega), ← ints_take, ← hcm, List.take_take, List.drop_take, List.take_take, Nat.min_eq_left (by omega)]
                congr 1
                omega
              rw [hmi]
              refine ⟨?_, (hU.set _ (by omega) (fun _ => rfl)).mono (fun z _ e => by simp [slBlock, e]), rfl⟩
              unfold Is Sl
              refine ⟨by simp, .inr ⟨b, o, cap, ex, by rw [hmil], by omega, h1, fun _ => ⟨by simp; omega, _, _, _, _, Heap.get_set_same _ _ _, ?_, ?_⟩⟩⟩
              · rw [List.length_append, hT]; omega
              · rw [hmil, Nat.mul_one]; exact key _
        · refine walk (both g0 (both g3 hlt)) ?_
          refine Wq.regionD [0, 1, 2, 3, 4, 5, 6, 7, 8, 9] (by kernel_rfl) ?_
          refine walk (both g0 (both g3 (both hlt (both h3 (both cx (both cy (both lx (both ly (both hiI hxy))))))))) ?_
          refine Roundq.normal (l.length - (i + 1)) (by omega) ⟨i + 1, by omega, by omega, rfl, by simp [g0], by simp, rfl, ?_⟩
          rw [cmpF_new hx (fun h => hxy (by have := h.2; rw [hy] at this; injection this with this; exact this.symm)), hcf, take_snoc hx]
      · obtain rfl : i = l.length := by omega
        rw [hcf, List.take_length]
        refine walk (both g0 g3) ?_
        exact ⟨hIs, Upd.rfl, rfl⟩
end Go.Abs

/- Chapter 13: which lists are made, walked. -/
namespace Go.Abs
open Go.Proofs
set_option maxRecDepth 100000
set_option linter.unusedVariables false
set_option linter.unusedSimpArgs false

/-- The numbers of a list, each once, rising. -/
def Canon (l S : List Int) : Prop := S.Pairwise (· < ·) ∧ ∀ x, x ∈ S ↔ x ∈ l
theorem canon_eq : ∀ {S T : List Int}, S.Pairwise (· < ·) → T.Pairwise (· < ·) → (∀ x, x ∈ S ↔ x ∈ T) → S = T
  | [], [], _, _, _ => rfl
  | [], b :: T, _, _, h => by have := (h b).2 (by simp); cases this
  | a :: S, [], _, _, h => by have := (h a).1 (by simp); cases this
  | a :: S, b :: T, hS, hT, h => by
    obtain ⟨hS1, hS2⟩ := List.pairwise_cons.1 hS
    obtain ⟨hT1, hT2⟩ := List.pairwise_cons.1 hT
    have e : a = b := by
      rcases List.mem_cons.1 ((h a).1 (by simp)) with h1 | h1
      · exact h1
      · have := hT1 a h1
        rcases List.mem_cons.1 ((h b).2 (by simp)) with h2 | h2
        · exact h2.symm
        · have := hS1 b h2; omega
    subst e
    rw [canon_eq hS2 hT2 fun x => ?_]
    constructor
    · intro hx
      rcases List.mem_cons.1 ((h x).1 (List.mem_cons_of_mem _ hx)) with h1 | h1
      · subst h1; have := hS1 x hx; omega
      · exact h1
    · intro hx
      rcases List.mem_cons.1 ((h x).2 (List.mem_cons_of_mem _ hx)) with h1 | h1
      · subst h1; have := hT1 x hx; omega
      · exact h1
theorem canon_le : ∀ {T S : List Int}, S.Pairwise (· < ·) → T.Pairwise (· < ·) → (∀ x ∈ S, x ∈ T) → S.length ≤ T.length
  | T, [], _, _, _ => by simp
  | [], a :: S, _, _, h => by have := h a (by simp); cases this
  | b :: T, a :: S, hS, hT, h => by
    obtain ⟨hS1, hS2⟩ := List.pairwise_cons.1 hS
    obtain ⟨hT1, hT2⟩ := List.pairwise_cons.1 hT
    by_cases e : a = b
    · subst e
      have := canon_le hS2 hT2 fun x hx => by
        rcases List.mem_cons.1 (h x (List.mem_cons_of_mem _ hx)) with h1 | h1
        · subst h1; have := hS1 x hx; omega
        · exact h1
      simp; omega
    · have haT : a ∈ T := by
        rcases List.mem_cons.1 (h a (by simp)) with h1 | h1
        · exact absurd h1 e
        · exact h1
      have hba := hT1 a haT
      have := canon_le (T := T) (S := a :: S) hS hT2 fun x hx => by
        rcases List.mem_cons.1 (h x hx) with h1 | h1
        · subst h1
          rcases List.mem_cons.1 hx with h2 | h2
          · exact absurd h2.symm e
          · have := hS1 x h2; omega
        · exact h1
      simp at this ⊢; omega
theorem cmpF_canon {L : List Int} (hs : L.Pairwise (· ≤ ·)) : ∀ j, j ≤ L.length → (cmpF L j).Pairwise (· < ·) ∧ ∀ x, x ∈ cmpF L j ↔ x ∈ L.take j
  | 0, _ => by simp [cmpF]
  | j + 1, hj => by
    obtain ⟨x, hx⟩ := geti_lt (l := L) (i := j) (by omega)
    obtain ⟨ih1, ih2⟩ := cmpF_canon hs j (by omega)
    have hle : ∀ (i k : Nat) (a b : Int), i < k → L[i]? = some a → L[k]? = some b → a ≤ b := by
      intro i k a b hik ha hb
      obtain ⟨h1, rfl⟩ := List.getElem?_eq_some_iff.1 ha
      obtain ⟨h2, rfl⟩ := List.getElem?_eq_some_iff.1 hb
      exact List.pairwise_iff_getElem.1 hs i k h1 h2 hik
    by_cases hd : 0 < j ∧ L[j - 1]? = some x
    · rw [cmpF_dup hx hd.1 hd.2]
      refine ⟨ih1, fun y => ?_⟩
      rw [ih2, take_snoc hx, List.mem_append, List.mem_singleton]
      constructor
      · exact .inl
      · rintro (h | rfl)
        · exact h
        · refine List.mem_iff_getElem?.2 ⟨j - 1, ?_⟩
          rw [List.getElem?_take_of_lt (by omega)]; exact hd.2
    · rw [cmpF_new hx hd]
      constructor
      · rw [List.pairwise_append]
        refine ⟨ih1, by simp, fun y hy z hz => ?_⟩
        simp at hz; subst hz
        obtain ⟨i, hi⟩ := List.mem_iff_getElem?.1 ((ih2 y).1 hy)
        have hij : i < j := by have := (List.getElem?_eq_some_iff.1 hi).1; simp at this; omega
        rw [List.getElem?_take_of_lt hij] at hi
        obtain ⟨w, hw⟩ := geti_lt (l := L) (i := j - 1) (by omega)
        have h1 := hle (j - 1) j w z (by omega) hw hx
        have h2 : y ≤ w := by
          rcases Nat.lt_or_ge i (j - 1) with h | h
          · exact hle i (j - 1) y w h hi hw
          · obtain rfl : i = j - 1 := by omega
            rw [hi] at hw; injection hw with hw; omega
        have h3 : w ≠ z := fun e => hd ⟨by omega, by rw [hw, e]⟩
        omega
      · intro y
        rw [take_snoc hx, List.mem_append, List.mem_append, ih2]
theorem sortL_sorted (l : List Int) : (sortL l).Pairwise (· ≤ ·) := by
  have := List.pairwise_mergeSort (le := fun x y : Int => decide (x ≤ y)) (by intro a b c h1 h2; simp at *; omega) (by intro a b; simp; omega) l
  exact this.imp (by intro a b h; simpa using h)
theorem canon_made (l : List Int) : Canon l (cmpF (sortL l) (sortL l).length) := by
  obtain ⟨h1, h2⟩ := cmpF_canon (sortL_sorted l) (sortL l).length (Nat.le_refl _)
  refine ⟨h1, fun x => ?_⟩
  rw [h2, List.take_length]
  exact List.mem_mergeSort
theorem okL_of {S : List Int} (h1 : S.Pairwise (· < ·)) (h2 : ∀ x ∈ S, 0 ≤ x) : okL S := by
  intro i hi c hc
  refine ⟨h2 c (List.mem_of_getElem? hc), fun h0 b hb => ?_⟩
  obtain ⟨g1, rfl⟩ := List.getElem?_eq_some_iff.1 hc
  obtain ⟨g2, rfl⟩ := List.getElem?_eq_some_iff.1 hb
  exact List.pairwise_iff_getElem.1 h1 (i - 1) i g2 g1 (by omega)
theorem okL_nonneg {S : List Int} (h : okL S) : ∀ x ∈ S, 0 ≤ x := fun x hx => by
  obtain ⟨i, hi⟩ := List.mem_iff_getElem?.1 hx
  exact (h i (List.getElem?_eq_some_iff.1 hi).1 x hi).1
/-- What comes of making a list. -/
def MR (l S : List Int) (e : Int) : Prop := (e = 22 ∧ S = [] ∧ ¬ ∃ T, Canon l T ∧ (∀ x ∈ T, 0 ≤ x) ∧ T.length ≤ 32) ∨ (e = 0 ∧ Canon l S ∧ (∀ x ∈ S, 0 ≤ x) ∧ S.length ≤ 32)
theorem MR_one {l S T : List Int} {e f : Int} (h : MR l S e) (g : MR l T f) : S = T ∧ e = f := by
  rcases h with ⟨rfl, rfl, h⟩ | ⟨rfl, h, h1, h2⟩ <;> rcases g with ⟨rfl, rfl, g⟩ | ⟨rfl, g, g1, g2⟩
  · exact ⟨rfl, rfl⟩
  · exact absurd ⟨T, g, g1, g2⟩ h
  · exact absurd ⟨S, h, h1, h2⟩ g
  · exact ⟨canon_eq h.1 g.1 (fun x => by rw [h.2, g.2]), rfl⟩
theorem MR_can {l S : List Int} {e : Int} (h : MR l S e) : canP false S = true := by
  unfold canP
  rcases h with ⟨rfl, rfl, h⟩ | ⟨rfl, h, h1, h2⟩
  · simp; intro i hi; simp at hi
  · simp; exact ⟨okL_of h.1 h1, h2⟩
theorem cmpF_len (l : List Int) : ∀ j, (cmpF l j).length ≤ j
  | 0 => by simp [cmpF]
  | j + 1 => by
    have := cmpF_len l j
    simp only [cmpF]
    split
    · omega
    · split
      · omega
      · simp; omega
theorem keep_new2 (H : Heap) (x y : AObj) : Keep H ((H.push x).set H.next y) := (Upd.rfl.push _).set _ (by simp) (by omega)
theorem made38_ok {H : Heap} {v : AV} {l : List Int} (h : Is H v l) (hL : l.length ≤ 100000) : Cl Try.prog pr13 56 [v] H fun r H' => Keep H H' ∧ ∃ S e w, r = .tuple [.agg [.bool false, w], .int .i64 e] ∧ Is H' w S ∧ MR l S e ∧ ∀ z, slBlock w = some z → H.next ≤ z := by
  have nil0 : ∀ H : Heap, Is H (.slice none 0 0 none) [] := fun H => Sl.nil
  have hcan := canon_made l
  refine Cl.enter Try.func56 rfl rfl Try.ntmps56 (by simp) ?_
  refine walk none0 ?_
  have k0 : Keep H (H.push (.cells [.bool false, .slice none 0 0 none] 26 true false)) := Upd.rfl.push _
  have gT : (H.push (.cells [.bool false, .slice none 0 0 none] 26 true false)).get H.next = some (.cells [.bool false, .slice none 0 0 none] 26 true false) := by simp
  have nT : H.next < (H.push (.cells [.bool false, .slice none 0 0 none] 26 true false)).next := by simp
  generalize H.push (.cells [.bool false, .slice none 0 0 none] 26 true false) = H1 at *
  refine (clone46_ok (h.kept k0) hL).mono fun w H2 _ f2 => ?_
  have gT2 := (f2.keep.get nT).trans gT
  obtain ⟨wa, wc, wx, rfl, hwc, hwx⟩ := f2.own.form
  refine walk none0 ?_
  refine (sort47_ok f2 hL).mono fun r H3 _ ⟨ea, f3⟩ => ?_
  subst ea
  have gT3 := (f3.keep.get nT).trans gT
  have n3 : H.next < H3.next := Nat.lt_of_lt_of_le nT f3.keep.next
  refine walk none0 ?_
  have hsl := sortL_len l
  have hown : OwnG H3 3 1 (.slice wa l.length wc wx) (sortL l).length (ints (sortL l)) := by rw [hsl]; exact f3.own
  refine (compact48_ok hown (by omega)).mono fun u H4 _ ⟨iu, hU, hb⟩ => ?_
  have hnew := f3.new
  have gT4 : H4.get H.next = some (.cells [.bool false, .slice none 0 0 none] 26 true false) := (hU.keep H.next n3 (fun e => by have := hnew _ e; omega)).trans gT3
  have k4 : Keep H H4 := k0.then (f3.keep.trans hU (fun z hz e => by have := hnew z e; omega))
  have n4 : H.next < H4.next := Nat.lt_of_lt_of_le n3 hU.next
  have hDl := cmpF_len (sortL l) (sortL l).length
  generalize cmpF (sortL l) (sortL l).length = D at *
  obtain ⟨ua, uc, ux, rfl, huc, hux⟩ := iu.form
  refine walk none0 ?_
  have k5 := keep_new2 H4 (.cells [.bool false, .slice none 0 0 none] 26 true false) (.cells [.bool false, .slice ua D.length uc ux] 26 true false)
  have gA : ((H4.push (.cells [.bool false, .slice none 0 0 none] 26 true false)).set H4.next (.cells [.bool false, .slice ua D.length uc ux] 26 true false)).get H4.next = some (.cells [.bool false, .slice ua D.length uc ux] 26 true false) := Heap.get_set_same _ _ _
  have nA : H4.next < ((H4.push (.cells [.bool false, .slice none 0 0 none] 26 true false)).set H4.next (.cells [.bool false, .slice ua D.length uc ux] 26 true false)).next := by simp
  have gT5 := (k5.get n4).trans gT4
  have iu5 := iu.kept k5
  generalize (H4.push (.cells [.bool false, .slice none 0 0 none] 26 true false)).set H4.next (.cells [.bool false, .slice ua D.length uc ux] 26 true false) = H5 at *
  refine (can34_ok (a := false) iu5 (by omega)).mono fun r H6 _ ⟨kC, ea⟩ => ?_
  subst ea
  have gT6 := (kC.get (by have := k5.next; omega)).trans gT5
  have gA6 := (kC.get nA).trans gA
  have k6 := (k4.then k5).then kC
  have n6 : H.next < H6.next := by have := k5.next; have := kC.next; omega
  cases hcp : canP false D with
  | false =>
    refine walk gT6 ?_
    refine ⟨k6.set _ n6 (by omega), [], 22, _, rfl, nil0 _, .inl ⟨rfl, rfl, ?_⟩, by simp [slBlock]⟩
    rintro ⟨T, hT, hT1, hT2⟩
    have e : D = T := canon_eq hcan.1 hT.1 (fun x => by rw [hcan.2, hT.2])
    subst e
    have : canP false D = true := by unfold canP; simp; exact ⟨okL_of hT.1 hT1, hT2⟩
    rw [this] at hcp
    cases hcp
  | true =>
    have hD : okL D ∧ D.length ≤ 32 := by unfold canP at hcp; simpa using hcp
    refine walk (both gT6 gA6) ?_
    refine ⟨k6.set _ n6 (by omega), D, 0, _, rfl, Sl.set (iu5.kept kC) _ ?_, .inr ⟨rfl, hcan, okL_nonneg hD.1, hD.2⟩, fun z hz => by rw [hb] at hz; have := hnew z hz; omega⟩
    intro e
    rw [hb] at e
    have := hnew _ e
    omega
end Go.Abs

/- Chapter 13: the reference's Make, walked. -/
namespace Go.Abs
open Go.Proofs
set_option maxRecDepth 100000
set_option linter.unusedVariables false
set_option linter.unusedSimpArgs false

theorem cuts {H : Heap} {wa : Option (Nat × Nat)} {wc : Nat} {wx : Option Nat} {S : List Int} {k : Nat} (h : Is H (.slice wa S.length wc wx) S) (hk : k ≤ S.length) : ∃ P1 P2 : AV, (∀ H', sliceR Try.prog 24 (some (.slice wa S.length wc wx)) (some none) (some (some (.int .i64 k))) (some none) H' = some (P1, H')) ∧
    (∀ H', sliceR Try.prog 24 (some (.slice wa S.length wc wx)) (some (some (.int .i64 k))) (some none) (some none) H' = some (P2, H')) ∧ (∀ H', Is H' (.slice wa S.length wc wx) S → Is H' P1 (S.take k) ∧ Is H' P2 (S.drop k)) := by
  obtain ⟨a', c', x', e, hc, hx⟩ := h.form
  injection e with _ _ e3 e4
  subst e3; subst e4
  cases wa with
  | none =>
    have hl0 : S = [] ∧ wc = 0 := by
      unfold Is Sl at h
      rcases h.2 with ⟨e, hn⟩ | ⟨b, o, c, x, e, _⟩
      · injection e with _ e2 e3 _
        exact ⟨List.eq_nil_of_length_eq_zero hn, e3⟩
      · cases e
    obtain ⟨rfl, rfl⟩ := hl0
    obtain rfl : k = 0 := by simpa using hk
    refine ⟨.slice none 0 0 none, .slice none 0 0 none, fun H' => ?_, fun H' => ?_, fun H' _ => ⟨Sl.nil, Sl.nil⟩⟩
    · rw [slc_h (by simp), elemS24]; simp [slcR]
    · rw [slc_l (by simp), elemS24]; simp [slcR]
  | some p =>
    obtain ⟨b, o⟩ := p
    refine ⟨.slice (some (b, o)) k wc wx, .slice (some (b, o + k)) (S.length - k) (wc - k) wx, fun H' => ?_, fun H' => ?_, fun H' h' => ⟨h'.cut hk hc hx, ?_⟩⟩
    · rw [slc_h hc, elemS24]
      simp only [slcR]
      rw [if_pos (by omega), if_pos hx]
      simp
    · rw [slc_l hc, elemS24]
      simp only [slcR]
      rw [if_pos (by omega), if_pos hx]
      simp only [Bool.false_eq_true, if_false]
      rw [show o + (k : Int).toNat * 1 = o + k by omega, show ((S.length : Int) - k).toNat = S.length - k by omega, show ((wc : Int) - k).toNat = wc - k by omega]
    · have := Sl.sub h' (k := k) (m := S.length - k) (cap' := wc - k) (ex' := wx) (by omega) (by omega) hx
      rw [Nat.mul_one, Nat.mul_one] at this
      have e : ((ints S).drop k).take (S.length - k) = ints (S.drop k) := by
        rw [List.take_of_length_le (by simp)]; simp [ints]
      rw [e] at this
      unfold Is
      rw [List.length_drop]
      exact this
theorem ins_strict {S : List Int} {x : Int} {k : Nat} (hS : S.Pairwise (· < ·)) (h1 : ∀ y ∈ S.take k, y < x) (h2 : ∀ y ∈ S.drop k, x < y) : (S.take k ++ ([x] ++ S.drop k)).Pairwise (· < ·) := by
  rw [List.pairwise_append]
  refine ⟨hS.sublist (List.take_sublist _ _), ?_, ?_⟩
  · rw [List.singleton_append, List.pairwise_cons]
    exact ⟨h2, hS.sublist (List.drop_sublist _ _)⟩
  · intro a ha b hb
    rw [List.singleton_append] at hb
    rcases List.mem_cons.1 hb with rfl | hb
    · exact h1 a ha
    · have := h1 a ha; have := h2 b hb; omega
theorem ins_mem {S : List Int} {x : Int} {k : Nat} (y : Int) : y ∈ S.take k ++ ([x] ++ S.drop k) ↔ y = x ∨ y ∈ S := by
  have : y ∈ S ↔ y ∈ S.take k ∨ y ∈ S.drop k := by
    conv => lhs; rw [← List.take_append_drop k S]
    exact List.mem_append
  rw [this, List.mem_append, List.mem_append, List.mem_singleton]
  constructor
  · rintro (h | h | h)
    · exact .inr (.inl h)
    · exact .inl h
    · exact .inr (.inr h)
  · rintro (h | h | h)
    · exact .inr (.inl h)
    · exact .inl h
    · exact .inr (.inr h)
theorem refMake19_ok {H : Heap} {v : AV} {l : List Int} (h : Is H v l) (hL : l.length ≤ 100000) : Cl Try.prog pr13 68 [v] H fun r H' => Keep H H' ∧ ∃ S e w, r = .tuple [.agg [.bool false, w], .int .i64 e] ∧ Is H' w S ∧ MR l S e ∧ ∀ z, slBlock w = some z → H.next ≤ z := by
  have nil0 : ∀ H : Heap, Is H (.slice none 0 0 none) [] := fun H => Sl.nil
  obtain ⟨va, vc, vx, rfl, hvc, hvx⟩ := h.form
  refine Cl.enter Try.func68 rfl rfl Try.ntmps68 (by simp) ?_
  refine walk none0 ?_
  refine Wq.loop (fun m e H' => ∃ (i : Nat) (S : List Int) (w : AV), i ≤ l.length ∧ m = l.length - i ∧ e 0 = .slice va l.length vc vx ∧ e 2 = .ptr (some (H.next, 0)) ∧ e 4 = .ptr (some (H.next + 1, 0)) ∧ e 5 = .int .i64 i ∧
    H'.get H.next = some (.cells [.bool false, .slice none 0 0 none] 26 true false) ∧ H'.get (H.next + 1) = some (.cells [.bool false, w] 26 true false) ∧ FreshG H H' 3 1 w S.length (ints S) ∧ (∀ z, slBlock w = some z → H.next + 2 ≤ z ∧ z < H'.next) ∧ H.next + 2 ≤ H'.next ∧
    S.Pairwise (· < ·) ∧ (∀ x, x ∈ S ↔ x ∈ l.take i) ∧ (∀ x ∈ S, 0 ≤ x) ∧ S.length ≤ 32) l.length ?_ ?_
  · refine ⟨0, [], .slice none 0 0 none, by omega, by omega, by simp, by simp, by simp, by simp, ?_, ?_, ?_, by simp [slBlock], by simp, by simp, by simp, by simp, by simp⟩
    · simp (disch := omega) [ineg]
    · simp (disch := omega) [ineg]
    · exact FreshG.nil (((Upd.rfl.push _).push _).set _ (by simp) (fun h => by omega))
  · rintro m e H' ⟨i, S, w, hi, rfl, g0, g2, g4, g5, gT, gA, hF, hz, hn, hSs, hSm, hS0, hS32⟩
    obtain ⟨wa, wc, wx, rfl, hwc, hwx⟩ := hF.own.form
    by_cases hlt : i < l.length
    · obtain ⟨x, hx⟩ := geti_lt hlt
      have hIl := h.kept hF.keep
      obtain ⟨b, o, cc, t, wf, mk, rfl, _, hb1, hb2, hb3, hb4⟩ := int_at hIl hx
      have hxl : x ∈ l := List.mem_of_getElem? hx
      by_cases hneg : x < 0
      · refine walk (both g0 (both g2 (both g4 (both g5 (both hlt (both hb2 (both hb3 (both hb4 (both hneg gT))))))))) ?_
        refine ⟨hF.keep.set _ (by omega) (by omega), [], 22, _, rfl, nil0 _, .inl ⟨rfl, rfl, ?_⟩, by simp [slBlock]⟩
        rintro ⟨T, hT, hT1, _⟩
        have := hT1 x ((hT.2 x).2 hxl)
        omega
      · have hx0 : 0 ≤ x := by omega
        refine walk (both g0 (both g2 (both g4 (both g5 (both hlt (both hb2 (both hb3 (both hb4 hneg)))))))) ?_
        refine Wq.regionD [0, 1, 2, 3, 4, 5, 6] (by kernel_rfl) ?_
        refine walk (both g0 (both g2 (both g4 (both g5 (both hlt (both hb2 (both hb3 (both hb4 gA)))))))) ?_
        refine (in31_ok (l := S) hF.is (by omega) x).mono fun r H2 _ ⟨ea, eb⟩ => ?_
        subst ea; subst eb
        have hst := take_snoc hx
        by_cases hin : x ∈ S
        · rw [decide_eq_true hin]
          refine walk g5 ?_
          refine Roundq.normal (l.length - (i + 1)) (by omega) ⟨i + 1, S, _, by omega, rfl, by simp [g0], by simp [g2], by simp [g4], by simp, gT, gA, hF, hz, hn, hSs, ?_, hS0, hS32⟩
          intro y
          rw [hst, List.mem_append, List.mem_singleton, ← hSm]
          constructor
          · exact .inl
          · rintro (h | rfl)
            · exact h
            · exact hin
        · rw [decide_eq_false hin]
          refine walk g5 ?_
          refine Wq.loop (fun m e H3 => ∃ k : Nat, k ≤ S.length ∧ m = S.length - k ∧ H3 = H2 ∧ e 0 = .slice (some (b, o)) l.length vc vx ∧ e 2 = .ptr (some (H.next, 0)) ∧ e 4 = .ptr (some (H.next + 1, 0)) ∧ e 5 = .int .i64 i ∧ e 6 = .int .i64 k ∧ ∀ (j : Nat) (y : Int), j < k → S[j]? = some y → y < x) S.length ?_ ?_
          · exact ⟨0, by omega, by omega, rfl, by simp [g0], by simp [g2], by simp [g4], by simp [g5], by simp, fun j y hj => by omega⟩
          · rintro m e2 H3 ⟨k, hk, rfl, rfl, q0, q2, q4, q5, q6, hlo⟩
            by_cases hkl : k < S.length
            · obtain ⟨y, hy⟩ := geti_lt hkl
              obtain ⟨b', o', cc', t', w', mk', rfl, _, hc1, hc2, hc3, hc4⟩ := int_at hF.is hy
              by_cases hyx : y < x
              · refine walk none0 ?_
                refine Wq.regionD [0, 1, 2, 3, 4, 5, 6, 7, 8, 9, 10, 11, 12, 13, 14, 15, 16] (by kernel_rfl) ?_
                refine walk (both q0 (both q2 (both q4 (both q5 (both q6 (both hkl (both hlt (both gA (both hb2 (both hb3 (both hb4 (both hc2 (both hc3 (both hc4 hyx)))))))))))))) ?_
                refine Roundq.normal (S.length - (k + 1)) (by omega) ⟨k + 1, by omega, rfl, rfl, by simp [q0], by simp [q2], by simp [q4], by simp [q5], by simp, fun j z hj hz' => ?_⟩
                rcases Nat.lt_or_ge j k with h' | h'
                · exact hlo j z h' hz'
                · obtain rfl : j = k := by omega
                  rw [hy] at hz'; injection hz' with hz'; omega
              · refine walk none0 ?_
                refine Wq.regionD [0, 1, 2, 3, 4, 5, 6, 7, 8, 9, 10, 11, 12, 13, 14, 15, 16] (by kernel_rfl) ?_
                refine walk (both q0 (both q2 (both q4 (both q5 (both q6 (both hkl (both hlt (both gA (both hb2 (both hb3 (both hb4 (both hc2 (both hc3 (both hc4 hyx)))))))))))))) ?_
                have hgt : ∀ z ∈ S.drop k, x < z := by
                  intro z hz'
                  obtain ⟨j, hj⟩ := List.mem_iff_getElem?.1 hz'
                  rw [List.getElem?_drop] at hj
                  have hxy : x ≠ y := fun e => hin (by rw [e]; exact List.mem_of_getElem? hy)
                  rcases Nat.eq_zero_or_pos j with h' | h'
                  · subst h'; rw [Nat.add_zero, hy] at hj; injection hj with hj; omega
                  · obtain ⟨u1, rfl⟩ := List.getElem?_eq_some_iff.1 hj
                    obtain ⟨u2, rfl⟩ := List.getElem?_eq_some_iff.1 hy
                    have := List.pairwise_iff_getElem.1 hSs k (k + j) u2 u1 (by omega)
                    omega
                have hlo' : ∀ z ∈ S.take k, z < x := by
                  intro z hz'
                  obtain ⟨j, hj⟩ := List.mem_iff_getElem?.1 hz'
                  have hjk : j < k := by have := (List.getElem?_eq_some_iff.1 hj).1; simp at this; omega
                  rw [List.getElem?_take_of_lt hjk] at hj
                  exact hlo j z hjk hj
                have hS' := ins_strict hSs hlo' hgt
                have hM' := @ins_mem S x k
                obtain ⟨P1, P2, hs1, hs2, hP⟩ := cuts hF.is hk
                obtain ⟨p1, p2⟩ := hP _ hF.is
                have hT1 : (S.take k).length ≤ 32 := by simp; omega
                have hD1 : (S.drop k).length ≤ 32 := by simp; omega
                have hTD : (S.take k).length + (S.drop k).length = S.length := by simp; omega
                generalize S.take k = A at *
                generalize S.drop k = B at *
                refine Wq.regionM [(0, 0), (1, 0), (2, 0), (3, 0), (4, 0), (5, 0), (6, 0), (7, 0), (8, 0), (9, 2), (10, 0), (11, 0), (12, 0), (13, 3), (14, 0), (15, 0), (16, 0), (17, 0), (18, 0)] (by kernel_rfl) ?_
                refine mwalk (both q4 (both q6 (both gA hs1))) ?_
                refine Dq.appendL (own := (.empty _)) (new := ints A) (q := A.length) rfl met_none (by simp (disch := omega) [q4, -getElem?_pos, wrapI64, tdivN, tmodN, ipos, ineg, dpos, dneg, slc_l, slc_h, slc_lh, slc_hm, slc_lhm, slc_0, slcR_some, slcR_none, cutS_ok, cutA_ok, byteAt_ok]; first | done | (repeat' (first | rfl | apply And.intro))) ⟨_, rfl, by simp; first | done | (repeat' (first | rfl | apply And.intro))⟩ rfl (by kernel_rfl) (by kernel_rfl) (((p1.kept (Upd.rfl.push _)).src')) (by simp) (ints_one _) (by omega) (by omega) fun w1 H4 o1 b1 s1 l1 => ?_
                have kS4 : Keep H3 H4 := (Upd.rfl.push _).butOne b1 (fun z hz' hl => by simp [slBlock] at hz'; omega)
                have m1 : H3.next + 1 ≤ H4.next := by have := b1.1; simpa using this
                have z1 : ∀ z, slBlock w1 = some z → H3.next ≤ z := by
                  intro z hz1
                  rcases s1 with e | e
                  · rw [e] at hz1; simp [slBlock] at hz1; omega
                  · rw [e] at hz1; simp at hz1; omega
                rw [Nat.zero_add, List.nil_append] at o1
                have f1 : FreshG H H4 3 1 w1 A.length (ints A) := (FreshG.made (H0 := H) (cs := []) (n := 0) (elem := 3) (s := 1) (hF.keep.push _) (by simp) (b := H3.next) (by omega) (by simp) (by simp)).app o1 b1 s1
                obtain ⟨wa1, wc1, wx1, rfl, _⟩ := o1.form
                have gA4 := (kS4.get (by omega)).trans gA
                have hb24 := (kS4.get hb1).trans hb2
                refine mwalk (both q0 (both q4 (both q5 (both q6 (both gA (both gA4 (both hb2 (both hb24 (both hb3 (both hb4 hlt)))))))))) ?_
                have kB : Keep H4 (H4.push (.cells [.int .i64 x] 3 true false)) := Upd.rfl.push _
                refine Dq.appendL (own := (o1.kept kB)) (new := [.int .i64 x]) (q := 1) rfl met_none (by simp (disch := omega) [q4, -getElem?_pos, wrapI64, tdivN, tmodN, ipos, ineg, dpos, dneg, slc_l, slc_h, slc_lh, slc_hm, slc_lhm, slc_0, slcR_some, slcR_none, cutS_ok, cutA_ok, byteAt_ok]; first | done | (repeat' (first | rfl | apply And.intro))) ⟨_, rfl, by simp; first | done | (repeat' (first | rfl | apply And.intro))⟩ rfl (by kernel_rfl) (by kernel_rfl) (by refine ⟨by simp, ?_⟩; simp (disch := omega) [srcCells, cellsAt, q4, -getElem?_pos, wrapI64, tdivN, tmodN, ipos, ineg, dpos, dneg, slc_l, slc_h, slc_lh, slc_hm, slc_lhm, slc_0, slcR_some, slcR_none, cutS_ok, cutA_ok, byteAt_ok]; first | done | rfl) (by simp [q4]) (by simp [q4]) (by omega) (by omega) fun w2 H5 o2 b2 s2 l2 => ?_
                have m2 : H4.next + 1 ≤ H5.next := by have := b2.1; simpa using this
                have z2 : ∀ z, slBlock w2 = some z → H3.next ≤ z := by
                  intro z hz1
                  rcases s2 with e | e
                  · rw [e] at hz1; exact z1 z hz1
                  · rw [e] at hz1; simp at hz1; omega
                have f2 := (f1.then kB).app o2 b2 s2
                obtain ⟨wa2, wc2, wx2, rfl, _⟩ := o2.form
                have kS5 : Keep H3 H5 := (kS4.then kB).butOne b2 (fun z hz' hl => by have := z1 z hz'; omega)
                have gA5 := (kS5.get (by omega)).trans gA
                have p2' := p2.kept kS5
                refine mwalk (both q0 (both q4 (both q5 (both q6 (both gA (both gA4 (both gA5 hs2))))))) ?_
                refine Dq.appendL (own := o2) (new := ints B) (q := B.length) rfl met_none (by simp (disch := omega) [q4, -getElem?_pos, wrapI64, tdivN, tmodN, ipos, ineg, dpos, dneg, slc_l, slc_h, slc_lh, slc_hm, slc_lhm, slc_0, slcR_some, slcR_none, cutS_ok, cutA_ok, byteAt_ok]; first | done | (repeat' (first | rfl | apply And.intro))) ⟨_, rfl, by simp; first | done | (repeat' (first | rfl | apply And.intro))⟩ rfl (by kernel_rfl) (by kernel_rfl) ((p2'.src')) (by simp) (ints_one _) (by omega) (by omega) fun w3 H6 o3 b3 s3 l3 => ?_
                have kS6 : Keep H3 H6 := kS5.butOne b3 (fun z hz' hl => by have := z2 z hz'; omega)
                have gA6 := (kS6.get (by omega)).trans gA
                have gT6 := (kS6.get (by omega)).trans gT
                have m3 : H5.next ≤ H6.next := b3.1
                have z3 : ∀ z, slBlock w3 = some z → H3.next ≤ z := by
                  intro z hz1
                  rcases s3 with e | e
                  · rw [e] at hz1; exact z2 z hz1
                  · rw [e] at hz1; simp at hz1; omega
                have z3' : ∀ z, slBlock w3 = some z → z < H6.next := by
                  intro z hz1
                  rcases l3 z hz1 with e | e
                  · rcases l2 z e with e' | e'
                    · rcases l1 z e' with e'' | e''
                      · simp [slBlock] at e''; omega
                      · omega
                    · omega
                  · exact e
                have f3 := f2.app o3 b3 s3
                have hSl : (A ++ ([x] ++ B)).length = A.length + 1 + B.length := by simp; omega
                have hcs3 : ints A ++ [AV.int .i64 x] ++ ints B = ints (A ++ ([x] ++ B)) := by simp [ints]
                rw [hcs3, ← hSl] at f3
                obtain ⟨wa3, wc3, wx3, rfl, _⟩ := o3.form
                rw [← hSl] at f3 z3 z3' ⊢
                have hM3 : ∀ y, y ∈ A ++ ([x] ++ B) ↔ y ∈ l.take (i + 1) := by
                  intro y
                  rw [hM', hSm, hst, List.mem_append, List.mem_singleton]
                  exact Or.comm
                generalize A ++ ([x] ++ B) = S' at *
                refine mwalk (both q4 gA6) ?_
                by_cases h32 : 32 < S'.length
                · have h32I : 32 < (S'.length : Int) := by omega
                  refine walk (both q2 (both q4 (both h32I gT6))) ?_
                  refine ⟨(f3.keep.set _ (by omega) (by omega)).set _ (by simp; omega) (by omega), [], 22, _, rfl, nil0 _, .inl ⟨rfl, rfl, ?_⟩, by simp [slBlock]⟩
                  rintro ⟨T, hT, hT1, hT2⟩
                  have := canon_le hS' hT.1 (fun y hy => (hT.2 y).2 (List.mem_of_mem_take ((hM3 y).1 hy)))
                  omega
                · have h32I : ¬ 32 < (S'.length : Int) := by omega
                  refine walk (both q2 (both q4 (both q5 h32I))) ?_
                  refine Roundq.normal (l.length - (i + 1)) (by omega) ⟨i + 1, S', .slice wa3 S'.length wc3 wx3, by omega, rfl, by simp [q0], by simp [q2], by simp [q4], by simp, ?_, Heap.get_set_same _ _ _, f3.put _ (by omega) (by omega) (fun e => by have := z3 _ e; omega), ?_, by simp; omega, hS', hM3, ?_, by omega⟩
                  · rw [Heap.get_set_ne _ _ (by omega)]; exact gT6
                  · intro z hz'; have := z3 z hz'; have := z3' z hz'; simp; omega
                  · intro y hy
                    rcases (hM' y).1 hy with rfl | h'
                    · exact hx0
                    · exact hS0 y h'
            · have hgt : ∀ z ∈ S.drop k, x < z := by
                intro z hz'
                rw [List.drop_eq_nil_of_le (by omega)] at hz'
                cases hz'
              have hklI : ¬ (k : Int) < S.length := by omega
              refine walk none0 ?_
              refine Wq.regionD [0, 1, 2, 3, 4, 5, 6, 7, 8, 9, 10, 11, 12, 13, 14, 15, 16] (by kernel_rfl) ?_
              refine walk (both q0 (both q2 (both q4 (both q5 (both q6 (both hlt (both gA (both hb2 (both hb3 (both hb4 hklI)))))))))) ?_
              have hlo' : ∀ z ∈ S.take k, z < x := by
                intro z hz'
                obtain ⟨j, hj⟩ := List.mem_iff_getElem?.1 hz'
                have hjk : j < k := by have := (List.getElem?_eq_some_iff.1 hj).1; simp at this; omega
                rw [List.getElem?_take_of_lt hjk] at hj
                exact hlo j z hjk hj
              have hS' := ins_strict hSs hlo' hgt
              have hM' := @ins_mem S x k
              obtain ⟨P1, P2, hs1, hs2, hP⟩ := cuts hF.is hk
              obtain ⟨p1, p2⟩ := hP _ hF.is
              have hT1 : (S.take k).length ≤ 32 := by simp; omega
              have hD1 : (S.drop k).length ≤ 32 := by simp; omega
              have hTD : (S.take k).length + (S.drop k).length = S.length := by simp; omega
              generalize S.take k = A at *
              generalize S.drop k = B at *
              refine Wq.regionM [(0, 0), (1, 0), (2, 0), (3, 0), (4, 0), (5, 0), (6, 0), (7, 0), (8, 0), (9, 2), (10, 0), (11, 0), (12, 0), (13, 3), (14, 0), (15, 0), (16, 0), (17, 0), (18, 0)] (by kernel_rfl) ?_
              refine mwalk (both q4 (both q6 (both gA hs1))) ?_
              refine Dq.appendL (own := (.empty _)) (new := ints A) (q := A.length) rfl met_none (by simp (disch := omega) [q4, -getElem?_pos, wrapI64, tdivN, tmodN, ipos, ineg, dpos, dneg, slc_l, slc_h, slc_lh, slc_hm, slc_lhm, slc_0, slcR_some, slcR_none, cutS_ok, cutA_ok, byteAt_ok]; first | done | (repeat' (first | rfl | apply And.intro))) ⟨_, rfl, by simp; first | done | (repeat' (first | rfl | apply And.intro))⟩ rfl (by kernel_rfl) (by kernel_rfl) (((p1.kept (Upd.rfl.push _)).src')) (by simp) (ints_one _) (by omega) (by omega) fun w1 H4 o1 b1 s1 l1 => ?_
              have kS4 : Keep H3 H4 := (Upd.rfl.push _).butOne b1 (fun z hz' hl => by simp [slBlock] at hz'; omega)
              have m1 : H3.next + 1 ≤ H4.next := by have := b1.1; simpa using this
              have z1 : ∀ z, slBlock w1 = some z → H3.next ≤ z := by
                intro z hz1
                rcases s1 with e | e
                · rw [e] at hz1; simp [slBlock] at hz1; omega
                · rw [e] at hz1; simp at hz1; omega
              rw [Nat.zero_add, List.nil_append] at o1
              have f1 : FreshG H H4 3 1 w1 A.length (ints A) := (FreshG.made (H0 := H) (cs := []) (n := 0) (elem := 3) (s := 1) (hF.keep.push _) (by simp) (b := H3.next) (by omega) (by simp) (by simp)).app o1 b1 s1
              obtain ⟨wa1, wc1, wx1, rfl, _⟩ := o1.form
              have gA4 := (kS4.get (by omega)).trans gA
              have hb24 := (kS4.get hb1).trans hb2
              refine mwalk (both q0 (both q4 (both q5 (both q6 (both gA (both gA4 (both hb2 (both hb24 (both hb3 (both hb4 hlt)))))))))) ?_
              have kB : Keep H4 (H4.push (.cells [.int .i64 x] 3 true false)) := Upd.rfl.push _
              refine Dq.appendL (own := (o1.kept kB)) (new := [.int .i64 x]) (q := 1) rfl met_none (by simp (disch := omega) [q4, -getElem?_pos, wrapI64, tdivN, tmodN, ipos, ineg, dpos, dneg, slc_l, slc_h, slc_lh, slc_hm, slc_lhm, slc_0, slcR_some, slcR_none, cutS_ok, cutA_ok, byteAt_ok]; first | done | (repeat' (first | rfl | apply And.intro))) ⟨_, rfl, by simp; first | done | (repeat' (first | rfl | apply And.intro))⟩ rfl (by kernel_rfl) (by kernel_rfl) (by refine ⟨by simp, ?_⟩; simp (disch := omega) [srcCells, cellsAt, q4, -getElem?_pos, wrapI64, tdivN, tmodN, ipos, ineg, dpos, dneg, slc_l, slc_h, slc_lh, slc_hm, slc_lhm, slc_0, slcR_some, slcR_none, cutS_ok, cutA_ok, byteAt_ok]; first | done | rfl) (by simp [q4]) (by simp [q4]) (by omega) (by omega) fun w2 H5 o2 b2 s2 l2 => ?_
              have m2 : H4.next + 1 ≤ H5.next := by have := b2.1; simpa using this
              have z2 : ∀ z, slBlock w2 = some z → H3.next ≤ z := by
                intro z hz1
                rcases s2 with e | e
                · rw [e] at hz1; exact z1 z hz1
                · rw [e] at hz1; simp at hz1; omega
              have f2 := (f1.then kB).app o2 b2 s2
              obtain ⟨wa2, wc2, wx2, rfl, _⟩ := o2.form
              have kS5 : Keep H3 H5 := (kS4.then kB).butOne b2 (fun z hz' hl => by have := z1 z hz'; omega)
              have gA5 := (kS5.get (by omega)).trans gA
              have p2' := p2.kept kS5
              refine mwalk (both q0 (both q4 (both q5 (both q6 (both gA (both gA4 (both gA5 hs2))))))) ?_
              refine Dq.appendL (own := o2) (new := ints B) (q := B.length) rfl met_none (by simp (disch := omega) [q4, -getElem?_pos, wrapI64, tdivN, tmodN, ipos, ineg, dpos, dneg, slc_l, slc_h, slc_lh, slc_hm, slc_lhm, slc_0, slcR_some, slcR_none, cutS_ok, cutA_ok, byteAt_ok]; first | done | (repeat' (first | rfl | apply And.intro))) ⟨_, rfl, by simp; first | done | (repeat' (first | rfl | apply And.intro))⟩ rfl (by kernel_rfl) (by kernel_rfl) ((p2'.src')) (by simp) (ints_one _) (by omega) (by omega) fun w3 H6 o3 b3 s3 l3 => ?_
              have kS6 : Keep H3 H6 := kS5.butOne b3 (fun z hz' hl => by have := z2 z hz'; omega)
              have gA6 := (kS6.get (by omega)).trans gA
              have gT6 := (kS6.get (by omega)).trans gT
              have m3 : H5.next ≤ H6.next := b3.1
              have z3 : ∀ z, slBlock w3 = some z → H3.next ≤ z := by
                intro z hz1
                rcases s3 with e | e
                · rw [e] at hz1; exact z2 z hz1
                · rw [e] at hz1; simp at hz1; omega
              have z3' : ∀ z, slBlock w3 = some z → z < H6.next := by
                intro z hz1
                rcases l3 z hz1 with e | e
                · rcases l2 z e with e' | e'
                  · rcases l1 z e' with e'' | e''
                    · simp [slBlock] at e''; omega
                    · omega
                  · omega
                · exact e
              have f3 := f2.app o3 b3 s3
              have hSl : (A ++ ([x] ++ B)).length = A.length + 1 + B.length := by simp; omega
              have hcs3 : ints A ++ [AV.int .i64 x] ++ ints B = ints (A ++ ([x] ++ B)) := by simp [ints]
              rw [hcs3, ← hSl] at f3
              obtain ⟨wa3, wc3, wx3, rfl, _⟩ := o3.form
              rw [← hSl] at f3 z3 z3' ⊢
              have hM3 : ∀ y, y ∈ A ++ ([x] ++ B) ↔ y ∈ l.take (i + 1) := by
                intro y
                rw [hM', hSm, hst, List.mem_append, List.mem_singleton]
                exact Or.comm
              generalize A ++ ([x] ++ B) = S' at *
              refine mwalk (both q4 gA6) ?_
              by_cases h32 : 32 < S'.length
              · have h32I : 32 < (S'.length : Int) := by omega
                refine walk (both q2 (both q4 (both h32I gT6))) ?_
                refine ⟨(f3.keep.set _ (by omega) (by omega)).set _ (by simp; omega) (by omega), [], 22, _, rfl, nil0 _, .inl ⟨rfl, rfl, ?_⟩, by simp [slBlock]⟩
                rintro ⟨T, hT, hT1, hT2⟩
                have := canon_le hS' hT.1 (fun y hy => (hT.2 y).2 (List.mem_of_mem_take ((hM3 y).1 hy)))
                omega
              · have h32I : ¬ 32 < (S'.length : Int) := by omega
                refine walk (both q2 (both q4 (both q5 h32I))) ?_
                refine Roundq.normal (l.length - (i + 1)) (by omega) ⟨i + 1, S', .slice wa3 S'.length wc3 wx3, by omega, rfl, by simp [q0], by simp [q2], by simp [q4], by simp, ?_, Heap.get_set_same _ _ _, f3.put _ (by omega) (by omega) (fun e => by have := z3 _ e; omega), ?_, by simp; omega, hS', hM3, ?_, by omega⟩
                · rw [Heap.get_set_ne _ _ (by omega)]; exact gT6
                · intro z hz'; have := z3 z hz'; have := z3' z hz'; simp; omega
                · intro y hy
                  rcases (hM' y).1 hy with rfl | h'
                  · exact hx0
                  · exact hS0 y h'
    · obtain rfl : i = l.length := by omega
      refine walk (both g0 (both g2 (both g4 (both g5 (both gA gT))))) ?_
      refine ⟨hF.keep.set _ (by omega) (by omega), S, 0, _, rfl, Sl.set hF.is _ (fun e => by have := (hz _ e).1; omega), .inr ⟨rfl, ⟨hSs, fun y => by rw [hSm, List.take_length]⟩, hS0, hS32⟩, fun z hz' => by have := (hz z hz').1; omega⟩
end Go.Abs

/- Chapter 13: subsets, the reference walked. -/
namespace Go.Abs
open Go.Proofs
set_option maxRecDepth 100000
set_option linter.unusedVariables false
set_option linter.unusedSimpArgs false

theorem refSubset25_ok {H : Heap} {a b : Bool} {v w : AV} {l m : List Int} (h : Is H v l) (h' : Is H w m) (hL : l.length ≤ 100000) (hM : m.length ≤ 100000) : Cl Try.prog pr13 42 [.agg [.bool a, v], .agg [.bool b, w]] H fun r H' => Keep H H' ∧ r = .bool (subP a l b m) := by
  obtain ⟨va, vc, vx, rfl, hvc, hvx⟩ := h.form
  obtain ⟨wa, wc, wx, rfl, hwc, hwx⟩ := h'.form
  have kB : Keep H ((H.push (.cells [.bool a, .slice va l.length vc vx] 26 true false)).push (.cells [.bool b, .slice wa m.length wc wx] 26 true false)) := (Upd.rfl.push _).push _
  have gA : ((H.push (.cells [.bool a, .slice va l.length vc vx] 26 true false)).push (.cells [.bool b, .slice wa m.length wc wx] 26 true false)).get H.next = some (.cells [.bool a, .slice va l.length vc vx] 26 true false) := by simp (disch := omega) [ineg]
  have gB : ((H.push (.cells [.bool a, .slice va l.length vc vx] 26 true false)).push (.cells [.bool b, .slice wa m.length wc wx] 26 true false)).get (H.next + 1) = some (.cells [.bool b, .slice wa m.length wc wx] 26 true false) := by simp (disch := omega) [ineg]
  have nB : H.next + 1 < ((H.push (.cells [.bool a, .slice va l.length vc vx] 26 true false)).push (.cells [.bool b, .slice wa m.length wc wx] 26 true false)).next := by simp
  refine Cl.enter Try.func42 rfl rfl Try.ntmps42 (by simp) ?_
  refine walk none0 ?_
  generalize (H.push (.cells [.bool a, .slice va l.length vc vx] 26 true false)).push (.cells [.bool b, .slice wa m.length wc wx] 26 true false) = H1 at *
  refine (refCan15_ok (h.kept kB) hL).mono fun r H2 _ ⟨kA, ea⟩ => ?_
  subst ea
  have gA2 := (kA.get (by omega)).trans gA
  have gB2 := (kA.get nB).trans gB
  have n2 : H.next + 1 < H2.next := Nat.lt_of_lt_of_le nB kA.next
  cases hca : canP a l with
  | false =>
    have e : subP a l b m = false := by unfold subP; rw [hca]; rfl
    rw [e]
    refine walk none0 ?_
    exact ⟨kB.then kA, rfl⟩
  | true =>
    refine walk gB2 ?_
    refine (refCan15_ok (h'.kept (kB.then kA)) hM).mono fun r H3 _ ⟨kC, ea⟩ => ?_
    subst ea
    have gA3 := (kC.get (by omega)).trans gA2
    have gB3 := (kC.get n2).trans gB2
    have n3 : H.next + 1 < H3.next := Nat.lt_of_lt_of_le n2 kC.next
    have k3 := (kB.then kA).then kC
    cases hcb : canP b m with
    | false =>
      have e : subP a l b m = false := by unfold subP; rw [hca, hcb]; rfl
      rw [e]
      refine walk none0 ?_
      exact ⟨k3, rfl⟩
    | true =>
      have fin : (a && !b) = true → subP a l b m = false := fun hh => by unfold subP; rw [hca, hcb, hh]; rfl
      have rest : (a && !b) = false → subP a l b m = decide (∀ x ∈ l, hasP b m x = true) := fun hh => by unfold subP; rw [hca, hcb, hh]; simp
      rcases (by cases a <;> simp : a = false ∨ a = true) with ha | ha
      · have hab : (a && !b) = false := by rw [ha]; rfl
        refine walk (both gA3 ha) ?_
        refine Wq.loop (fun k e H' => ∃ i : Nat, i ≤ l.length ∧ k = l.length - i ∧ Keep H3 H' ∧ e 2 = .ptr (some (H.next, 0)) ∧ e 3 = .ptr (some (H.next + 1, 0)) ∧ e 5 = .int .i64 i ∧ ∀ j < i, ∀ x, l[j]? = some x → hasP b m x = true) l.length ?_ ?_
        · exact ⟨0, by omega, by omega, Upd.rfl, by simp, by simp, by simp, fun j hj => by omega⟩
        · rintro k e H' ⟨i, hi, rfl, kD, g2, g3, g5, hlo⟩
          have gA4 := (kD.get (by omega)).trans gA3
          have gB4 := (kD.get n3).trans gB3
          by_cases hlt : i < l.length
          · obtain ⟨x, hx⟩ := geti_lt hlt
            obtain ⟨bb, o, cc, t, w, mk, rfl, _, hb1, hb2, hb3, hb4⟩ := int_at (h.kept (k3.then kD)) hx
            refine walk (both g2 (both g3 (both g5 (both hlt gA4)))) ?_
            refine Wq.regionD [0, 1, 2, 3, 4, 5, 6, 7] (by kernel_rfl) ?_
            refine walk (both g2 (both g3 (both g5 (both hlt (both gA4 (both gB4 (both hb2 (both hb3 hb4)))))))) ?_
            refine (refHas11_ok (h'.kept (k3.then kD)) hM x).mono fun r H5 _ ⟨kE, ea⟩ => ?_
            subst ea
            cases hh : hasP b m x with
            | false =>
              have hno : ¬ ∀ x ∈ l, hasP b m x = true := fun hall => by rw [hall x (List.mem_of_getElem? hx)] at hh; cases hh
              rw [rest hab, decide_eq_false hno]
              refine walk none0 ?_
              exact ⟨(k3.then kD).then kE, rfl⟩
            | true =>
              refine walk g5 ?_
              exact Roundq.normal (l.length - (i + 1)) (by omega) ⟨i + 1, by omega, rfl, kD.then kE, by simp [g2], by simp [g3], by simp, lt_step hlo (fun y hy => by rw [hx] at hy; injection hy with hy; subst hy; exact hh)⟩
          · obtain rfl : i = l.length := by omega
            have hall : ∀ x ∈ l, hasP b m x = true := fun x hx => by
              obtain ⟨j, hj⟩ := List.mem_iff_getElem?.1 hx
              exact hlo j (List.getElem?_eq_some_iff.1 hj).1 x hj
            rw [rest hab, decide_eq_true hall]
            refine walk (both g2 (both g3 (both g5 gA4))) ?_
            exact ⟨k3.then kD, rfl⟩
      · rcases (by cases b <;> simp : b = false ∨ b = true) with hb | hb
        · rw [fin (by rw [ha, hb]; rfl)]
          refine walk (both gA3 (both gB3 (both ha hb))) ?_
          exact ⟨k3, rfl⟩
        · have hab : (a && !b) = false := by rw [ha, hb]; rfl
          refine walk (both gA3 (both gB3 (both ha hb))) ?_
          refine Wq.loop (fun k e H' => ∃ i : Nat, i ≤ l.length ∧ k = l.length - i ∧ Keep H3 H' ∧ e 2 = .ptr (some (H.next, 0)) ∧ e 3 = .ptr (some (H.next + 1, 0)) ∧ e 5 = .int .i64 i ∧ ∀ j < i, ∀ x, l[j]? = some x → hasP b m x = true) l.length ?_ ?_
          · exact ⟨0, by omega, by omega, Upd.rfl, by simp, by simp, by simp, fun j hj => by omega⟩
          · rintro k e H' ⟨i, hi, rfl, kD, g2, g3, g5, hlo⟩
            have gA4 := (kD.get (by omega)).trans gA3
            have gB4 := (kD.get n3).trans gB3
            by_cases hlt : i < l.length
            · obtain ⟨x, hx⟩ := geti_lt hlt
              obtain ⟨bb, o, cc, t, w, mk, rfl, _, hb1, hb2, hb3, hb4⟩ := int_at (h.kept (k3.then kD)) hx
              refine walk (both g2 (both g3 (both g5 (both hlt gA4)))) ?_
              refine Wq.regionD [0, 1, 2, 3, 4, 5, 6, 7] (by kernel_rfl) ?_
              refine walk (both g2 (both g3 (both g5 (both hlt (both gA4 (both gB4 (both hb2 (both hb3 hb4)))))))) ?_
              refine (refHas11_ok (h'.kept (k3.then kD)) hM x).mono fun r H5 _ ⟨kE, ea⟩ => ?_
              subst ea
              cases hh : hasP b m x with
              | false =>
                have hno : ¬ ∀ x ∈ l, hasP b m x = true := fun hall => by rw [hall x (List.mem_of_getElem? hx)] at hh; cases hh
                rw [rest hab, decide_eq_false hno]
                refine walk none0 ?_
                exact ⟨(k3.then kD).then kE, rfl⟩
              | true =>
                refine walk g5 ?_
                exact Roundq.normal (l.length - (i + 1)) (by omega) ⟨i + 1, by omega, rfl, kD.then kE, by simp [g2], by simp [g3], by simp, lt_step hlo (fun y hy => by rw [hx] at hy; injection hy with hy; subst hy; exact hh)⟩
            · obtain rfl : i = l.length := by omega
              have hall : ∀ x ∈ l, hasP b m x = true := fun x hx => by
                obtain ⟨j, hj⟩ := List.mem_iff_getElem?.1 hx
                exact hlo j (List.getElem?_eq_some_iff.1 hj).1 x hj
              rw [rest hab, decide_eq_true hall]
              refine walk (both g2 (both g3 (both g5 gA4))) ?_
              exact ⟨k3.then kD, rfl⟩
end Go.Abs

/- Chapter 13: WhiteLimits. -/
namespace Go.Abs
open Go.Proofs
set_option maxRecDepth 100000
set_option linter.unusedVariables false
set_option linter.unusedSimpArgs false

/-- What comes of limiting. -/
def LR (a : Bool) (o l S : List Int) (e : Int) : Prop := ∃ T f, MR l T f ∧ ((f ≠ 0 ∧ S = [] ∧ e = 22) ∨ (f = 0 ∧ canP a o = false ∧ S = [] ∧ e = 22) ∨ (f = 0 ∧ canP a o = true ∧ subP false T a o = false ∧ S = [] ∧ e = 93) ∨ (f = 0 ∧ canP a o = true ∧ subP false T a o = true ∧ S = T ∧ e = 0))
theorem LR_one {a : Bool} {o l S S' : List Int} {e e' : Int} (h : LR a o l S e) (g : LR a o l S' e') : S = S' ∧ e = e' := by
  obtain ⟨T, f, hT, h⟩ := h
  obtain ⟨T', f', hT', g⟩ := g
  obtain ⟨rfl, rfl⟩ := MR_one hT hT'
  rcases h with ⟨h1, rfl, rfl⟩ | ⟨h1, h2, rfl, rfl⟩ | ⟨h1, h2, h3, rfl, rfl⟩ | ⟨h1, h2, h3, rfl, rfl⟩ <;> rcases g with ⟨g1, rfl, rfl⟩ | ⟨g1, g2, rfl, rfl⟩ | ⟨g1, g2, g3, rfl, rfl⟩ | ⟨g1, g2, g3, rfl, rfl⟩ <;> first | exact ⟨rfl, rfl⟩ | (exfalso; simp_all; done)
theorem LR_sub {a : Bool} {o l S : List Int} {e : Int} (h : LR a o l S e) : (e = 0 → subP false S a o = true) ∧ S.length ≤ 32 := by
  obtain ⟨T, f, hT, h⟩ := h
  have hl : f = 0 → T.length ≤ 32 := fun hf => by
    rcases hT with ⟨rfl, _⟩ | ⟨_, _, _, h⟩
    · cases hf
    · exact h
  rcases h with ⟨h1, rfl, rfl⟩ | ⟨h1, h2, rfl, rfl⟩ | ⟨h1, h2, h3, rfl, rfl⟩ | ⟨h1, h2, h3, rfl, rfl⟩
  · exact ⟨fun h => absurd h (by decide), by simp⟩
  · exact ⟨fun h => absurd h (by decide), by simp⟩
  · exact ⟨fun h => absurd h (by decide), by simp⟩
  · exact ⟨fun _ => h3, hl h1⟩
theorem MR_err {l S : List Int} {e : Int} (h : MR l S e) : e = 0 ∨ e = 22 := by
  rcases h with ⟨rfl, _⟩ | ⟨rfl, _⟩
  · exact .inr rfl
  · exact .inl rfl
theorem limit23_ok {H : Heap} {a : Bool} {v w : AV} {o l : List Int} (h : Is H v o) (h' : Is H w l) (hO : o.length ≤ 100000) (hL : l.length ≤ 100000) : Cl Try.prog pr13 39 [.agg [.bool a, v], w] H fun r H' => Keep H H' ∧ ∃ S e u, r = .tuple [.agg [.bool false, u], .int .i64 e] ∧ Is H' u S ∧ LR a o l S e ∧ ∀ z, slBlock u = some z → H.next ≤ z := by
  have nil0 : ∀ H : Heap, Is H (.slice none 0 0 none) [] := fun H => Sl.nil
  obtain ⟨va, vc, vx, rfl, hvc, hvx⟩ := h.form
  obtain ⟨wa, wc, wx, rfl, hwc, hwx⟩ := h'.form
  have kB : Keep H ((H.push (.cells [.bool a, .slice va o.length vc vx] 26 true false)).push (.cells [.bool false, .slice none 0 0 none] 26 true false)) := (Upd.rfl.push _).push _
  have gA : ((H.push (.cells [.bool a, .slice va o.length vc vx] 26 true false)).push (.cells [.bool false, .slice none 0 0 none] 26 true false)).get H.next = some (.cells [.bool a, .slice va o.length vc vx] 26 true false) := by simp (disch := omega) [ineg]
  have gT : ((H.push (.cells [.bool a, .slice va o.length vc vx] 26 true false)).push (.cells [.bool false, .slice none 0 0 none] 26 true false)).get (H.next + 1) = some (.cells [.bool false, .slice none 0 0 none] 26 true false) := by simp (disch := omega) [ineg]
  have nT : H.next + 1 < ((H.push (.cells [.bool a, .slice va o.length vc vx] 26 true false)).push (.cells [.bool false, .slice none 0 0 none] 26 true false)).next := by simp
  have hoB := h.kept kB
  refine Cl.enter Try.func39 rfl rfl Try.ntmps39 (by simp) ?_
  refine walk none0 ?_
  generalize (H.push (.cells [.bool a, .slice va o.length vc vx] 26 true false)).push (.cells [.bool false, .slice none 0 0 none] 26 true false) = H1 at *
  refine (made38_ok (h'.kept kB) hL).mono fun r H2 _ ⟨kA, T, f, u, ea, iT, hT, hz⟩ => ?_
  subst ea
  obtain ⟨ua, uc, ux, rfl, huc, hux⟩ := iT.form
  have gA2 := (kA.get (by omega)).trans gA
  have gT2 := (kA.get nT).trans gT
  have n2 : H.next + 1 < H2.next := Nat.lt_of_lt_of_le nT kA.next
  have ho2 := hoB.kept kA
  refine walk none0 ?_
  have k3 := keep_new2 H2 (.cells [.bool false, .slice none 0 0 none] 26 true false) (.cells [.bool false, .slice ua T.length uc ux] 26 true false)
  have gN : ((H2.push (.cells [.bool false, .slice none 0 0 none] 26 true false)).set H2.next (.cells [.bool false, .slice ua T.length uc ux] 26 true false)).get H2.next = some (.cells [.bool false, .slice ua T.length uc ux] 26 true false) := Heap.get_set_same _ _ _
  have nN : H2.next < ((H2.push (.cells [.bool false, .slice none 0 0 none] 26 true false)).set H2.next (.cells [.bool false, .slice ua T.length uc ux] 26 true false)).next := by simp
  have gA3 := (k3.get (by omega)).trans gA2
  have gT3 := (k3.get n2).trans gT2
  have ho3 := ho2.kept k3
  have iT3 := iT.kept k3
  have kH3 := (kB.then kA).then k3
  generalize (H2.push (.cells [.bool false, .slice none 0 0 none] 26 true false)).set H2.next (.cells [.bool false, .slice ua T.length uc ux] 26 true false) = H3 at *
  have n3 : H.next + 1 < H3.next := by omega
  by_cases hf : f = 0
  · subst hf
    have hTl : T.length ≤ 100000 := by
      rcases hT with ⟨h, _⟩ | ⟨_, _, _, h⟩
      · cases h
      · omega
    refine walk gA3 ?_
    refine (can34_ok (a := a) ho3 hO).mono fun r H4 _ ⟨k4, ea⟩ => ?_
    subst ea
    have gA4 := (k4.get (by omega)).trans gA3
    have gT4 := (k4.get n3).trans gT3
    have gN4 := (k4.get nN).trans gN
    have n4 : H.next + 1 < H4.next := Nat.lt_of_lt_of_le n3 k4.next
    have nN4 : H2.next < H4.next := Nat.lt_of_lt_of_le nN k4.next
    cases hca : canP a o with
    | false =>
      refine walk gT4 ?_
      exact ⟨(kH3.then k4).set _ n4 (by omega), [], 22, _, rfl, nil0 _, ⟨T, 0, hT, .inr (.inl ⟨rfl, hca, rfl, rfl⟩)⟩, fun z h => by simp [slBlock] at h⟩
    | true =>
      refine walk (both gN4 gA4) ?_
      refine (subset40_ok (a := false) (b := a) (iT3.kept k4) (ho3.kept k4) hTl hO).mono fun r H5 _ ⟨k5, ea⟩ => ?_
      subst ea
      have gT5 := (k5.get n4).trans gT4
      have gN5 := (k5.get nN4).trans gN4
      have n5 : H.next + 1 < H5.next := Nat.lt_of_lt_of_le n4 k5.next
      cases hsb : subP false T a o with
      | false =>
        refine walk gT5 ?_
        exact ⟨((kH3.then k4).then k5).set _ n5 (by omega), [], 93, _, rfl, nil0 _, ⟨T, 0, hT, .inr (.inr (.inl ⟨rfl, hca, hsb, rfl, rfl⟩))⟩, fun z h => by simp [slBlock] at h⟩
      | true =>
        refine walk (both gT5 gN5) ?_
        exact ⟨((kH3.then k4).then k5).set _ n5 (by omega), T, 0, _, rfl, Sl.set ((iT3.kept k4).kept k5) _ (fun e => by have := hz _ e; omega), ⟨T, 0, hT, .inr (.inr (.inr ⟨rfl, hca, hsb, rfl, rfl⟩))⟩, fun z h => by have := hz z h; have := kB.next; omega⟩
  · have hf22 : f = 22 := (MR_err hT).resolve_left hf
    subst hf22
    refine walk gT3 ?_
    exact ⟨kH3.set _ n3 (by omega), [], 22, _, rfl, nil0 _, ⟨T, 22, hT, .inl ⟨hf, rfl, rfl⟩⟩, fun z h => by simp [slBlock] at h⟩
theorem refLimit24_ok {H : Heap} {a : Bool} {v w : AV} {o l : List Int} (h : Is H v o) (h' : Is H w l) (hO : o.length ≤ 100000) (hL : l.length ≤ 100000) : Cl Try.prog pr13 61 [.agg [.bool a, v], w] H fun r H' => Keep H H' ∧ ∃ S e u, r = .tuple [.agg [.bool false, u], .int .i64 e] ∧ Is H' u S ∧ LR a o l S e ∧ ∀ z, slBlock u = some z → H.next ≤ z := by
  have nil0 : ∀ H : Heap, Is H (.slice none 0 0 none) [] := fun H => Sl.nil
  obtain ⟨va, vc, vx, rfl, hvc, hvx⟩ := h.form
  obtain ⟨wa, wc, wx, rfl, hwc, hwx⟩ := h'.form
  have kB : Keep H ((H.push (.cells [.bool a, .slice va o.length vc vx] 26 true false)).push (.cells [.bool false, .slice none 0 0 none] 26 true false)) := (Upd.rfl.push _).push _
  have gA : ((H.push (.cells [.bool a, .slice va o.length vc vx] 26 true false)).push (.cells [.bool false, .slice none 0 0 none] 26 true false)).get H.next = some (.cells [.bool a, .slice va o.length vc vx] 26 true false) := by simp (disch := omega) [ineg]
  have gT : ((H.push (.cells [.bool a, .slice va o.length vc vx] 26 true false)).push (.cells [.bool false, .slice none 0 0 none] 26 true false)).get (H.next + 1) = some (.cells [.bool false, .slice none 0 0 none] 26 true false) := by simp (disch := omega) [ineg]
  have nT : H.next + 1 < ((H.push (.cells [.bool a, .slice va o.length vc vx] 26 true false)).push (.cells [.bool false, .slice none 0 0 none] 26 true false)).next := by simp
  have hoB := h.kept kB
  refine Cl.enter Try.func61 rfl rfl Try.ntmps61 (by simp) ?_
  refine walk none0 ?_
  generalize (H.push (.cells [.bool a, .slice va o.length vc vx] 26 true false)).push (.cells [.bool false, .slice none 0 0 none] 26 true false) = H1 at *
  refine (refMake19_ok (h'.kept kB) hL).mono fun r H2 _ ⟨kA, T, f, u, ea, iT, hT, hz⟩ => ?_
  subst ea
  obtain ⟨ua, uc, ux, rfl, huc, hux⟩ := iT.form
  have gA2 := (kA.get (by omega)).trans gA
  have gT2 := (kA.get nT).trans gT
  have n2 : H.next + 1 < H2.next := Nat.lt_of_lt_of_le nT kA.next
  have ho2 := hoB.kept kA
  refine walk none0 ?_
  have k3 := keep_new2 H2 (.cells [.bool false, .slice none 0 0 none] 26 true false) (.cells [.bool false, .slice ua T.length uc ux] 26 true false)
  have gN : ((H2.push (.cells [.bool false, .slice none 0 0 none] 26 true false)).set H2.next (.cells [.bool false, .slice ua T.length uc ux] 26 true false)).get H2.next = some (.cells [.bool false, .slice ua T.length uc ux] 26 true false) := Heap.get_set_same _ _ _
  have nN : H2.next < ((H2.push (.cells [.bool false, .slice none 0 0 none] 26 true false)).set H2.next (.cells [.bool false, .slice ua T.length uc ux] 26 true false)).next := by simp
  have gA3 := (k3.get (by omega)).trans gA2
  have gT3 := (k3.get n2).trans gT2
  have ho3 := ho2.kept k3
  have iT3 := iT.kept k3
  have kH3 := (kB.then kA).then k3
  generalize (H2.push (.cells [.bool false, .slice none 0 0 none] 26 true false)).set H2.next (.cells [.bool false, .slice ua T.length uc ux] 26 true false) = H3 at *
  have n3 : H.next + 1 < H3.next := by omega
  by_cases hf : f = 0
  · subst hf
    have hTl : T.length ≤ 100000 := by
      rcases hT with ⟨h, _⟩ | ⟨_, _, _, h⟩
      · cases h
      · omega
    refine walk gA3 ?_
    refine (refCan15_ok (a := a) ho3 hO).mono fun r H4 _ ⟨k4, ea⟩ => ?_
    subst ea
    have gA4 := (k4.get (by omega)).trans gA3
    have gT4 := (k4.get n3).trans gT3
    have gN4 := (k4.get nN).trans gN
    have n4 : H.next + 1 < H4.next := Nat.lt_of_lt_of_le n3 k4.next
    have nN4 : H2.next < H4.next := Nat.lt_of_lt_of_le nN k4.next
    cases hca : canP a o with
    | false =>
      refine walk gT4 ?_
      exact ⟨(kH3.then k4).set _ n4 (by omega), [], 22, _, rfl, nil0 _, ⟨T, 0, hT, .inr (.inl ⟨rfl, hca, rfl, rfl⟩)⟩, fun z h => by simp [slBlock] at h⟩
    | true =>
      refine walk (both gN4 gA4) ?_
      refine (refSubset25_ok (a := false) (b := a) (iT3.kept k4) (ho3.kept k4) hTl hO).mono fun r H5 _ ⟨k5, ea⟩ => ?_
      subst ea
      have gT5 := (k5.get n4).trans gT4
      have gN5 := (k5.get nN4).trans gN4
      have n5 : H.next + 1 < H5.next := Nat.lt_of_lt_of_le n4 k5.next
      cases hsb : subP false T a o with
      | false =>
        refine walk gT5 ?_
        exact ⟨((kH3.then k4).then k5).set _ n5 (by omega), [], 93, _, rfl, nil0 _, ⟨T, 0, hT, .inr (.inr (.inl ⟨rfl, hca, hsb, rfl, rfl⟩))⟩, fun z h => by simp [slBlock] at h⟩
      | true =>
        refine walk (both gT5 gN5) ?_
        exact ⟨((kH3.then k4).then k5).set _ n5 (by omega), T, 0, _, rfl, Sl.set ((iT3.kept k4).kept k5) _ (fun e => by have := hz _ e; omega), ⟨T, 0, hT, .inr (.inr (.inr ⟨rfl, hca, hsb, rfl, rfl⟩))⟩, fun z h => by have := hz z h; have := kB.next; omega⟩
  · have hf22 : f = 22 := (MR_err hT).resolve_left hf
    subst hf22
    refine walk gT3 ?_
    exact ⟨kH3.set _ n3 (by omega), [], 22, _, rfl, nil0 _, ⟨T, 22, hT, .inl ⟨hf, rfl, rfl⟩⟩, fun z h => by simp [slBlock] at h⟩
end Go.Abs

/- Chapter 13: subsets of rights, walked. -/
namespace Go.Abs
open Go.Proofs
set_option maxRecDepth 100000
set_option linter.unusedVariables false
set_option linter.unusedSimpArgs false

theorem wrap32 {n : Nat} (h : n < 4294967296) : IntKind.u32.wrap (n : Int) = n := by simp [IntKind.wrap, IntKind.signed, IntKind.bits]; omega
theorem bits32 : IntKind.u32.bits = 32 := rfl
theorem bv_lt (a : BitVec 32) : a.toNat < 4294967296 := a.isLt
theorem u32_andnot (a b : BitVec 32) : IntKind.u32.wrap ((a.toNat % 2 ^ IntKind.u32.bits &&& 2 ^ IntKind.u32.bits - 1 - b.toNat % 2 ^ IntKind.u32.bits : Nat) : Int) = ((a &&& ~~~b).toNat : Nat) := by
  rw [bits32, Nat.mod_eq_of_lt a.isLt, Nat.mod_eq_of_lt b.isLt]
  have : (a &&& ~~~b).toNat = a.toNat &&& 2 ^ 32 - 1 - b.toNat := by rw [BitVec.toNat_and, BitVec.toNat_not]
  rw [← this]
  exact wrap32 (bv_lt _)
theorem subset37_ok (a b : BitVec 32) (H : Heap) : Cl Try.prog pr13 37 [.int .u32 a.toNat, .int .u32 b.toNat] H fun v H' => v = .bool (decide (a &&& ~~~b = 0#32)) ∧ H' = H := by
  refine Cl.enter Try.func37 rfl rfl Try.ntmps37 (by simp) ?_
  refine walk none0 ?_
  rw [u32_andnot]
  refine ⟨?_, rfl⟩
  congr 2
  simp [BitVec.toNat_eq]
def bitA (a : BitVec 32) (i : Nat) : Bool := a.getLsbD i
theorem bitA_eq (a : BitVec 32) (i : Nat) : bitA a i = a.getLsbD i := rfl
theorem has59_ok (a : BitVec 32) (i : Nat) (hi : i < 32) (H : Heap) : Cl Try.prog pr13 59 [.int .u32 a.toNat, .int .i64 i] H fun v H' => v = .bool (bitA a i) ∧ H' = H := by
  have hw : IntKind.u64.wrap (i : Int) = i := by simp [IntKind.wrap, IntKind.signed, IntKind.bits]; omega
  refine Cl.enter Try.func59 rfl rfl Try.ntmps59 (by simp) ?_
  refine walk hw ?_
  refine ⟨?_, rfl⟩
  rw [bits32, Nat.min_eq_left (by omega), bitA_eq]
  have h1 : ((a.toNat : Int).fdiv (2 ^ i)) = ((a.toNat / 2 ^ i : Nat) : Int) := by
    rw [Int.fdiv_eq_ediv_of_nonneg _ (Int.pow_nonneg (by omega))]
    simp
  rw [h1, Int.tmod_eq_emod_of_nonneg (Int.natCast_nonneg _)]
  simp only [BitVec.getLsbD, Nat.testBit_eq_decide_div_mod_eq]
  congr 2
  simp only [eq_iff_iff]
  omega
theorem refSubset41_ok (a b : BitVec 32) (H : Heap) : Cl Try.prog pr13 41 [.int .u32 a.toNat, .int .u32 b.toNat] H fun v H' => v = .bool (decide (a &&& ~~~b = 0#32)) ∧ H' = H := by
  refine Cl.enter Try.func41 rfl rfl Try.ntmps41 (by simp) ?_
  refine walk none0 ?_
  refine Wq.loop (fun m e H' => ∃ i : Nat, i ≤ 32 ∧ m = 32 - i ∧ H' = H ∧ e 0 = .int .u32 a.toNat ∧ e 1 = .int .u32 b.toNat ∧ e 5 = .int .i64 i ∧ ∀ k, k < i → bitA a k = true → bitA b k = true) 32 ?_ ?_
  · exact ⟨0, by omega, by omega, rfl, by simp, by simp, by simp, fun k hk => by omega⟩
  · rintro m e H' ⟨i, hi, rfl, rfl, g0, g1, g5, hlo⟩
    by_cases hlt : i < 32
    · refine walk (both g0 (both g1 (both g5 hlt))) ?_
      refine (has59_ok a i hlt H').mono fun v H1 _ ⟨e1, e2⟩ => ?_
      subst e1; subst e2
      by_cases ha : bitA a i = true
      · refine walk (both g0 (both g1 (both g5 ha))) ?_
        refine (has59_ok b i hlt H1).mono fun v H2 _ ⟨e1, e2⟩ => ?_
        subst e1; subst e2
        by_cases hb : bitA b i = true
        · refine walk (both g0 (both g1 (both g5 (both ha hb)))) ?_
          refine Roundq.normal (32 - (i + 1)) (by omega) ⟨i + 1, by omega, rfl, rfl, by simp [g0], by simp [g1], by simp, fun k hk hak => ?_⟩
          rcases Nat.lt_or_ge k i with h | h
          · exact hlo k h hak
          · obtain rfl : k = i := by omega
            exact hb
        · rw [Bool.not_eq_true] at hb
          refine walk (both g0 (both g1 (both g5 (both ha hb)))) ?_
          refine ⟨?_, rfl⟩
          have : ¬ (a &&& ~~~b = 0#32) := by
            intro h
            have h2 : (a &&& ~~~b).getLsbD i = (0#32).getLsbD i := by rw [h]
            rw [bitA_eq] at ha hb
            rw [BitVec.getLsbD_and, BitVec.getLsbD_not, ha, hb, BitVec.getLsbD_zero] at h2
            simp [hlt] at h2
          rw [decide_eq_false this]
      · rw [Bool.not_eq_true] at ha
        refine walk (both g0 (both g1 (both g5 ha))) ?_
        refine Roundq.normal (32 - (i + 1)) (by omega) ⟨i + 1, by omega, rfl, rfl, by simp [g0], by simp [g1], by simp, fun k hk hak => ?_⟩
        rcases Nat.lt_or_ge k i with h | h
        · exact hlo k h hak
        · obtain rfl : k = i := by omega
          rw [ha] at hak; cases hak
    · refine walk (both g0 (both g1 (both g5 hlt))) ?_
      refine ⟨?_, rfl⟩
      have : a &&& ~~~b = 0#32 := by
        apply BitVec.eq_of_getLsbD_eq
        intro k hk
        simp only [BitVec.getLsbD_and, BitVec.getLsbD_not, BitVec.getLsbD_zero, hk, decide_true, Bool.true_and]
        cases hak : a.getLsbD k with
        | false => rfl
        | true =>
          have := hlo k (by omega) hak
          rw [bitA_eq] at this
          rw [this]; rfl
      rw [decide_eq_true this]
end Go.Abs

/- Chapter 13: slots, walked. -/
namespace Go.Abs
open Go.Proofs
set_option maxRecDepth 100000
set_option linter.unusedVariables false
set_option linter.unusedSimpArgs false

/-- A slot, but its list. -/
structure SlotT where
  f : Int
  r : BitVec 32
  a : Bool
  l : List Int
  m : Int
def slotC (s : SlotT) (w : AV) : List AV := [.int .i64 s.f, .int .u32 s.r.toNat, .bool s.a, w, .int .i64 s.m]
theorem Can53_ok {H : Heap} {a : Bool} {v : AV} {l : List Int} (h : Is H v l) (hL : l.length ≤ 100000) : Cl Try.prog pr13 53 [.agg [.bool a, v]] H fun r H' => Keep H H' ∧ r = .bool (canP a l) := by
  obtain ⟨va, vc, vx, rfl, hvc, hvx⟩ := h.form
  have kB : Keep H (H.push (.cells [.bool a, .slice va l.length vc vx] 26 true false)) := Upd.rfl.push _
  refine Cl.enter Try.func53 rfl rfl Try.ntmps53 (by simp) ?_
  refine walk none0 ?_
  refine (can34_ok (h.kept kB) hL).mono fun r H1 _ ⟨kA, ea⟩ => ?_
  subst ea
  refine walk none0 ?_
  exact ⟨kB.then kA, rfl⟩
theorem own35_ok {H : Heap} {s : SlotT} {v : AV} (h : Is H v s.l) (hL : s.l.length ≤ 100000) : Cl Try.prog pr13 35 [.agg (slotC s v)] H fun r H' => Keep H H' ∧ ∃ w, r = .agg (slotC s w) ∧ Is H' w s.l ∧ ∀ z, slBlock w = some z → H.next ≤ z := by
  obtain ⟨f, rr, a, l, m⟩ := s
  unfold slotC
  simp only [] at *
  obtain ⟨va, vc, vx, rfl, hvc, hvx⟩ := h.form
  have kB : Keep H ((H.push (.cells [.int .i64 f, .int .u32 rr.toNat, .bool a, .slice va l.length vc vx, .int .i64 m] 28 true false)).push (.cells [.int .i64 0, .int .u32 0, .bool false, .slice none 0 0 none, .int .i64 0] 28 true false)) := (Upd.rfl.push _).push _
  have gA : ((H.push (.cells [.int .i64 f, .int .u32 rr.toNat, .bool a, .slice va l.length vc vx, .int .i64 m] 28 true false)).push (.cells [.int .i64 0, .int .u32 0, .bool false, .slice none 0 0 none, .int .i64 0] 28 true false)).get H.next = some (.cells [.int .i64 f, .int .u32 rr.toNat, .bool a, .slice va l.length vc vx, .int .i64 m] 28 true false) := by simp (disch := omega) [ineg]
  have gT : ((H.push (.cells [.int .i64 f, .int .u32 rr.toNat, .bool a, .slice va l.length vc vx, .int .i64 m] 28 true false)).push (.cells [.int .i64 0, .int .u32 0, .bool false, .slice none 0 0 none, .int .i64 0] 28 true false)).get (H.next + 1) = some (.cells [.int .i64 0, .int .u32 0, .bool false, .slice none 0 0 none, .int .i64 0] 28 true false) := by simp (disch := omega) [ineg]
  have nT : H.next + 1 < ((H.push (.cells [.int .i64 f, .int .u32 rr.toNat, .bool a, .slice va l.length vc vx, .int .i64 m] 28 true false)).push (.cells [.int .i64 0, .int .u32 0, .bool false, .slice none 0 0 none, .int .i64 0] 28 true false)).next := by simp
  have hB := h.kept kB
  refine Cl.enter Try.func35 rfl rfl Try.ntmps35 (by simp) ?_
  refine walk none0 ?_
  generalize (H.push (.cells [.int .i64 f, .int .u32 rr.toNat, .bool a, .slice va l.length vc vx, .int .i64 m] 28 true false)).push (.cells [.int .i64 0, .int .u32 0, .bool false, .slice none 0 0 none, .int .i64 0] 28 true false) = H1 at *
  refine (clone46_ok hB hL).mono fun w H2 _ f2 => ?_
  have gA2 := (f2.keep.get (by omega)).trans gA
  have gT2 := (f2.keep.get nT).trans gT
  have n2 : H.next + 1 < H2.next := Nat.lt_of_lt_of_le nT f2.keep.next
  have hnew := f2.new
  have i2 : Is H2 w l := f2.is
  obtain ⟨wa, wc, wx, rfl, hwc, hwx⟩ := f2.own.form
  refine walk (both gA2 gT2) ?_
  refine ⟨((kB.then f2.keep).set _ (by omega) (by omega)).set _ (by simp; omega) (by omega), _, rfl, Sl.set (Sl.set i2 _ (fun e => by have := hnew _ e; omega)) _ (fun e => by have := hnew _ e; omega), fun z hz => by have := hnew z hz; omega⟩
theorem one18g_ok {H : Heap} {s t : SlotT} {v w : AV} (h : Is H v s.l) (h' : Is H w t.l) (hL : s.l.length ≤ 100000) : Cl Try.prog pr13 18 [.agg (slotC s v), .agg (slotC t w)] H fun r H' => Keep H H' ∧ r = .bool (decide (s.f = t.f) && decide (s.r = t.r) && decide (s.m = t.m) && decide (s.a = t.a ∧ s.l = t.l)) := by
  obtain ⟨f, rr, a, l, m⟩ := s
  obtain ⟨f', rr', a', l', m'⟩ := t
  unfold slotC
  simp only [] at *
  obtain ⟨va, vc, vx, rfl, hvc, hvx⟩ := h.form
  obtain ⟨wa, wc, wx, rfl, hwc, hwx⟩ := h'.form
  have kB : Keep H ((H.push (.cells [.int .i64 f, .int .u32 rr.toNat, .bool a, .slice va l.length vc vx, .int .i64 m] 28 true false)).push (.cells [.int .i64 f', .int .u32 rr'.toNat, .bool a', .slice wa l'.length wc wx, .int .i64 m'] 28 true false)) := (Upd.rfl.push _).push _
  have hs := same16_ok (a := a) (b := a') (h.kept kB) (h'.kept kB) hL
  refine Cl.enter Try.func18 rfl rfl Try.ntmps18 (by simp) ?_
  by_cases c1 : f = f'
  · subst c1
    by_cases c2 : rr = rr'
    · subst c2
      by_cases c3 : m = m'
      · subst c3
        refine walk none0 ?_
        refine hs.mono fun r H1 _ ⟨ea, kA⟩ => ?_
        subst ea
        refine walk none0 ?_
        exact ⟨kB.then kA, by simp⟩
      · refine walk c3 ?_
        exact ⟨kB, by simp [c3]⟩
    · have c2' : ¬ rr.toNat = rr'.toNat := fun e => c2 (BitVec.eq_of_toNat_eq e)
      have c2I : ¬ (rr.toNat : Int) = rr'.toNat := by omega
      refine walk (both c2' c2I) ?_
      exact ⟨kB, by simp [c2]⟩
  · refine walk c1 ?_
    exact ⟨kB, by simp [c1]⟩
/-- Flags that stay. -/
def okF (m : Int) : Prop := ∀ i < 64, bitN m i = true → bitN 120 i = true
theorem bit120 : ∀ i < 64, bitN 120 i = !(offM i) := fun i hi => by
  have e : ((120 : Int) % 2 ^ IntKind.i64.bits).toNat = 120 % 2 ^ IntKind.i64.bits := by decide
  unfold bitN
  rw [e]
  exact beq_iff_eq.1 (List.all_eq_true.1 mask120 i (List.mem_range.2 hi))
theorem okF_bad (m : Int) : maskBad 120 m ↔ ¬ okF m := by
  unfold maskBad okF
  constructor
  · rintro ⟨i, hi, h1, h2⟩ h
    rw [bit120 i hi, h1] at h2
    have := h i hi (by simpa using h2)
    rw [bit120 i hi, h1] at this
    cases this
  · intro h
    apply Classical.byContradiction
    intro hn
    apply h
    intro i hi hm
    rw [bit120 i hi]
    cases ho : offM i with
    | false => rfl
    | true => exact absurd ⟨i, hi, ho, by rw [hm]; simp⟩ hn
theorem maskR_120 (m : Int) : ((maskR 120 m).2 = 0) ↔ okF m := by
  by_cases h : okF m
  · have hb : ¬ maskBad 120 m := fun hb => (okF_bad m).1 hb h
    have ho : ¬ maskOver 120 m := fun ⟨i, hi, h1, h2⟩ => by rw [h i hi h1] at h2; cases h2
    unfold maskR
    rw [if_neg hb, if_neg ho]
    exact ⟨fun _ => h, fun _ => rfl⟩
  · have hb : maskBad 120 m := (okF_bad m).2 h
    unfold maskR
    rw [if_pos hb]
    exact ⟨fun e => absurd e (by decide), fun e => absurd e h⟩
noncomputable instance (m : Int) : Decidable (okF m) := Classical.propDecidable _
/-- What can be a slot. -/
noncomputable def canS (s : SlotT) : Bool := decide (0 < s.f) && canP s.a s.l && decide (okF s.m)
theorem can33g_ok {H : Heap} {s : SlotT} {v : AV} (h : Is H v s.l) (hL : s.l.length ≤ 100000) : Cl Try.prog pr13 33 [.agg (slotC s v)] H fun r H' => Keep H H' ∧ r = .bool (canS s) := by
  obtain ⟨f, rr, a, l, m⟩ := s
  unfold slotC canS
  simp only [] at *
  obtain ⟨va, vc, vx, rfl, hvc, hvx⟩ := h.form
  have kB : Keep H (H.push (.cells [.int .i64 f, .int .u32 rr.toNat, .bool a, .slice va l.length vc vx, .int .i64 m] 28 true false)) := Upd.rfl.push _
  have gA : (H.push (.cells [.int .i64 f, .int .u32 rr.toNat, .bool a, .slice va l.length vc vx, .int .i64 m] 28 true false)).get H.next = some (.cells [.int .i64 f, .int .u32 rr.toNat, .bool a, .slice va l.length vc vx, .int .i64 m] 28 true false) := by simp
  have nA : H.next < (H.push (.cells [.int .i64 f, .int .u32 rr.toNat, .bool a, .slice va l.length vc vx, .int .i64 m] 28 true false)).next := by simp
  have hB := h.kept kB
  have hw : (IntKind.i64.wrap (((m % 2 ^ IntKind.i64.bits).toNat &&& 2 ^ IntKind.i64.bits - 1 - 120 % 2 ^ IntKind.i64.bits : Nat) : Int) = 0) = okF m := by
    have e : ((120 : Int) % 2 ^ IntKind.i64.bits).toNat = 120 % 2 ^ IntKind.i64.bits := by decide
    have := andNot_zero m 120
    rw [e] at this
    exact this
  refine Cl.enter Try.func33 rfl rfl Try.ntmps33 (by simp) ?_
  by_cases hf : 0 < f
  · rw [decide_eq_true hf]
    refine walk hf ?_
    generalize H.push (.cells [.int .i64 f, .int .u32 rr.toNat, .bool a, .slice va l.length vc vx, .int .i64 m] 28 true false) = H1 at *
    refine (Can53_ok (a := a) hB hL).mono fun r H2 _ ⟨kA, ea⟩ => ?_
    subst ea
    have gA2 := (kA.get nA).trans gA
    cases hc : canP a l with
    | false =>
      refine walk none0 ?_
      exact ⟨kB.then kA, rfl⟩
    | true =>
      by_cases ho : okF m
      · have hw := hw.trans (eq_true ho)
        rw [decide_eq_true ho]
        refine walk (both gA2 hw) ?_
        exact ⟨kB.then kA, rfl⟩
      · have hw := hw.trans (eq_false ho)
        rw [decide_eq_false ho]
        refine walk (both gA2 hw) ?_
        exact ⟨kB.then kA, rfl⟩
  · rw [decide_eq_false hf]
    refine walk hf ?_
    exact ⟨kB, rfl⟩
theorem refCan9_ok {H : Heap} {s : SlotT} {v : AV} (h : Is H v s.l) (hL : s.l.length ≤ 100000) : Cl Try.prog pr13 9 [.agg (slotC s v)] H fun r H' => Keep H H' ∧ r = .bool (canS s) := by
  obtain ⟨f, rr, a, l, m⟩ := s
  unfold slotC canS
  simp only [] at *
  obtain ⟨va, vc, vx, rfl, hvc, hvx⟩ := h.form
  have kB : Keep H (H.push (.cells [.int .i64 f, .int .u32 rr.toNat, .bool a, .slice va l.length vc vx, .int .i64 m] 28 true false)) := Upd.rfl.push _
  have gA : (H.push (.cells [.int .i64 f, .int .u32 rr.toNat, .bool a, .slice va l.length vc vx, .int .i64 m] 28 true false)).get H.next = some (.cells [.int .i64 f, .int .u32 rr.toNat, .bool a, .slice va l.length vc vx, .int .i64 m] 28 true false) := by simp
  have nA : H.next < (H.push (.cells [.int .i64 f, .int .u32 rr.toNat, .bool a, .slice va l.length vc vx, .int .i64 m] 28 true false)).next := by simp
  have hB := h.kept kB
  have hm := maskR_120 m
  refine Cl.enter Try.func9 rfl rfl Try.ntmps9 (by simp) ?_
  refine walk none0 ?_
  generalize H.push (.cells [.int .i64 f, .int .u32 rr.toNat, .bool a, .slice va l.length vc vx, .int .i64 m] 28 true false) = H1 at *
  refine (refMask_ok 120 m H1).mono fun r H2 _ ⟨ea, eb⟩ => ?_
  subst ea; subst eb
  generalize maskR 120 m = q at *
  obtain ⟨q1, q2⟩ := q
  simp only [] at hm ⊢
  by_cases hf : 0 < f
  · rw [decide_eq_true hf]
    refine walk (both gA hf) ?_
    refine (refCan15_ok (a := a) hB hL).mono fun r H3 _ ⟨kA, ea⟩ => ?_
    subst ea
    cases hc : canP a l with
    | false =>
      refine walk none0 ?_
      exact ⟨kB.then kA, rfl⟩
    | true =>
      by_cases ho : okF m
      · have hq := hm.2 ho
        rw [decide_eq_true ho]
        refine walk hq ?_
        exact ⟨kB.then kA, rfl⟩
      · have hq : ¬ q2 = 0 := fun e => ho (hm.1 e)
        rw [decide_eq_false ho]
        refine walk hq ?_
        exact ⟨kB.then kA, rfl⟩
  · rw [decide_eq_false hf]
    refine walk (both gA hf) ?_
    exact ⟨kB, rfl⟩
end Go.Abs

/- Chapter 13: one slot in a table of three, walked. -/
namespace Go.Abs
open Go.Proofs
set_option maxRecDepth 100000
set_option linter.unusedVariables false
set_option linter.unusedSimpArgs false

def withinP (s t : SlotT) : Prop := s.r &&& ~~~t.r = 0#32 ∧ subP s.a s.l t.a t.l = true ∧ (maskR t.m s.m).2 = 0
noncomputable instance (s t : SlotT) : Decidable (withinP s t) := Classical.propDecidable _
theorem within17_ok {H : Heap} {s t : SlotT} {v w : AV} (h : Is H v s.l) (h' : Is H w t.l) (hL : s.l.length ≤ 100000) (hM : t.l.length ≤ 100000) : Cl Try.prog pr13 17 [.agg (slotC s v), .agg (slotC t w)] H fun r H' => Keep H H' ∧ r = .bool (decide (withinP s t)) := by
  obtain ⟨f, rr, a, l, m⟩ := s
  obtain ⟨f', rr', a', l', m'⟩ := t
  unfold slotC
  simp only [] at *
  obtain ⟨va, vc, vx, rfl, hvc, hvx⟩ := h.form
  obtain ⟨wa, wc, wx, rfl, hwc, hwx⟩ := h'.form
  have kB : Keep H ((H.push (.cells [.int .i64 f, .int .u32 rr.toNat, .bool a, .slice va l.length vc vx, .int .i64 m] 28 true false)).push (.cells [.int .i64 f', .int .u32 rr'.toNat, .bool a', .slice wa l'.length wc wx, .int .i64 m'] 28 true false)) := (Upd.rfl.push _).push _
  have gA : ((H.push (.cells [.int .i64 f, .int .u32 rr.toNat, .bool a, .slice va l.length vc vx, .int .i64 m] 28 true false)).push (.cells [.int .i64 f', .int .u32 rr'.toNat, .bool a', .slice wa l'.length wc wx, .int .i64 m'] 28 true false)).get H.next = some (.cells [.int .i64 f, .int .u32 rr.toNat, .bool a, .slice va l.length vc vx, .int .i64 m] 28 true false) := by simp (disch := omega) [ineg]
  have gB : ((H.push (.cells [.int .i64 f, .int .u32 rr.toNat, .bool a, .slice va l.length vc vx, .int .i64 m] 28 true false)).push (.cells [.int .i64 f', .int .u32 rr'.toNat, .bool a', .slice wa l'.length wc wx, .int .i64 m'] 28 true false)).get (H.next + 1) = some (.cells [.int .i64 f', .int .u32 rr'.toNat, .bool a', .slice wa l'.length wc wx, .int .i64 m'] 28 true false) := by simp (disch := omega) [ineg]
  have hB := h.kept kB
  have hB' := h'.kept kB
  have hd : decide (withinP ⟨f, rr, a, l, m⟩ ⟨f', rr', a', l', m'⟩) = (decide (rr &&& ~~~rr' = 0#32) && subP a l a' l' && decide ((maskR m' m).2 = 0)) := by
    rw [Bool.eq_iff_iff, Bool.and_eq_true, Bool.and_eq_true, decide_eq_true_eq, decide_eq_true_eq, decide_eq_true_eq]
    exact ⟨fun ⟨a, b, c⟩ => ⟨⟨a, b⟩, c⟩, fun ⟨⟨a, b⟩, c⟩ => ⟨a, b, c⟩⟩
  rw [hd]
  refine Cl.enter Try.func17 rfl rfl Try.ntmps17 (by simp) ?_
  refine walk none0 ?_
  generalize (H.push (.cells [.int .i64 f, .int .u32 rr.toNat, .bool a, .slice va l.length vc vx, .int .i64 m] 28 true false)).push (.cells [.int .i64 f', .int .u32 rr'.toNat, .bool a', .slice wa l'.length wc wx, .int .i64 m'] 28 true false) = H1 at *
  refine (refMask_ok m' m H1).mono fun r H2 _ ⟨ea, eb⟩ => ?_
  subst ea; subst eb
  generalize maskR m' m = q at *
  obtain ⟨q1, q2⟩ := q
  simp only []
  refine walk (both gA gB) ?_
  refine (refSubset41_ok rr rr' _).mono fun r H3 _ ⟨ea, eb⟩ => ?_
  subst ea; subst eb
  generalize decide (rr &&& ~~~rr' = 0#32) = z1
  cases z1 with
  | false =>
    refine walk none0 ?_
    exact ⟨kB, rfl⟩
  | true =>
    refine walk (both gA gB) ?_
    refine (refSubset25_ok (a := a) (b := a') hB hB' hL hM).mono fun r H4 _ ⟨kA, ea⟩ => ?_
    subst ea
    generalize subP a l a' l' = z2
    cases z2 with
    | false =>
      refine walk none0 ?_
      exact ⟨kB.then kA, rfl⟩
    | true =>
      refine walk none0 ?_
      exact ⟨kB.then kA, by simp⟩
/-- A table of three with one slot. -/
structure TabL (H : Heap) (p b q : Nat) (s : SlotT) (w : AV) : Prop where
  gp : H.get p = some (.cells [.slice (some (b, 0)) 3 3 none] 67 true false)
  gb : H.get b = some (.cells [.ptr none, .ptr (some (q, 0)), .ptr none] 71 true false)
  gq : H.get q = some (.cells (slotC s w) 28 true false)
  is : Is H w s.l
  lp : p < H.next
  lb : b < H.next
  lq : q < H.next
theorem TabL.kept {H H' : Heap} {p b q : Nat} {s : SlotT} {w : AV} (h : TabL H p b q s w) (k : Keep H H') : TabL H' p b q s w :=
  ⟨(k.get h.lp).trans h.gp, (k.get h.lb).trans h.gb, (k.get h.lq).trans h.gq, h.is.kept k, Nat.lt_of_lt_of_le h.lp k.next, Nat.lt_of_lt_of_le h.lb k.next, Nat.lt_of_lt_of_le h.lq k.next⟩
theorem get36_one {H : Heap} {p b q : Nat} {s : SlotT} {w : AV} (h : TabL H p b q s w) : Cl Try.prog pr13 36 [.ptr (some (p, 0)), .int .i64 1] H fun r H' => H' = H ∧ r = .tuple [.ptr (some (q, 0)), .int .i64 0] := by
  have gp := h.gp
  have gb := h.gb
  refine Cl.enter Try.func36 rfl rfl Try.ntmps36 (by simp) ?_
  refine walk (both gp gb) ?_
  exact ⟨rfl, rfl⟩
theorem get12_one {H : Heap} {p b q : Nat} {s : SlotT} {w : AV} (h : TabL H p b q s w) (hL : s.l.length ≤ 100000) : Cl Try.prog pr13 12 [.ptr (some (p, 0)), .int .i64 1, .int .u32 0] H fun r H' => Keep H H' ∧ ∃ u, r = .tuple [.agg (slotC s u), .int .i64 0] ∧ Is H' u s.l := by
  have kT : Keep H (H.push (.cells [.int .i64 0, .int .u32 0, .bool false, .slice none 0 0 none, .int .i64 0] 28 true false)) := Upd.rfl.push _
  have gT : (H.push (.cells [.int .i64 0, .int .u32 0, .bool false, .slice none 0 0 none, .int .i64 0] 28 true false)).get H.next = some (.cells [.int .i64 0, .int .u32 0, .bool false, .slice none 0 0 none, .int .i64 0] 28 true false) := by simp
  have nT : H.next < (H.push (.cells [.int .i64 0, .int .u32 0, .bool false, .slice none 0 0 none, .int .i64 0] 28 true false)).next := by simp
  have h1 := h.kept kT
  have hsub := fun H => subset37_ok 0#32 s.r H
  have hz : decide (0#32 &&& ~~~s.r = 0#32) = true := by simp
  rw [hz] at hsub
  refine Cl.enter Try.func12 rfl rfl Try.ntmps12 (by simp) ?_
  refine walk none0 ?_
  generalize H.push (.cells [.int .i64 0, .int .u32 0, .bool false, .slice none 0 0 none, .int .i64 0] 28 true false) = H1 at *
  refine (get36_one h1).mono fun r H2 _ ⟨ea, eb⟩ => ?_
  subst ea; subst eb
  have gq := h1.gq
  have ho := own35_ok (s := s) h1.is hL
  obtain ⟨f, rr, a, l, m⟩ := s
  unfold slotC at gq ho ⊢
  simp only [] at gq ho hsub ⊢
  obtain ⟨va, vc, vx, rfl, hvc, hvx⟩ := h1.is.form
  simp only [] at gq ho hsub ⊢
  refine walk gq ?_
  refine (hsub _).mono fun r H3 _ ⟨ea, eb⟩ => ?_
  subst ea; subst eb
  refine walk gq ?_
  refine ho.mono fun r H4 _ ⟨k4, u, ea, iu, hu⟩ => ?_
  subst ea
  obtain ⟨ua, uc, ux, rfl, huc, hux⟩ := iu.form
  have gT4 := (k4.get nT).trans gT
  have n4 : H.next < H4.next := Nat.lt_of_lt_of_le nT k4.next
  refine walk gT4 ?_
  exact ⟨(kT.then k4).set _ n4 (by omega), _, rfl, Sl.set iu _ (fun e => by have := hu _ e; omega)⟩
end Go.Abs

/- Chapter 13: any table of slots, walked. -/
namespace Go.Abs
open Go.Proofs
set_option maxRecDepth 100000
set_option linter.unusedVariables false
set_option linter.unusedSimpArgs false

def zeroT : SlotT := ⟨0, 0#32, false, [], 0⟩
abbrev RowQ := Option (Nat × AV)
def rowP : RowQ → AV
  | none => .ptr none
  | some (q, _) => .ptr (some (q, 0))
def footT (b : Nat) (Q : List RowQ) (z : Nat) : Prop := z = b ∨ ∃ (i : Nat) (w : AV), Q[i]? = some (some (z, w))
theorem qlt {α : Type} {l : List α} {i : Nat} {x : α} (h : l[i]? = some x) : i < l.length := (List.getElem?_eq_some_iff.1 h).1
structure TabG (H : Heap) (p b : Nat) (Q : List RowQ) (L : List SlotT) : Prop where
  len : Q.length = L.length
  gp : H.get p = some (.cells [.slice (some (b, 0)) L.length L.length none] 67 true false)
  gb : H.get b = some (.cells (Q.map rowP) 71 true false)
  no : ∀ i : Nat, Q[i]? = some none → L[i]? = some zeroT
  row : ∀ (i q : Nat) (w : AV), Q[i]? = some (some (q, w)) → ∃ s, L[i]? = some s ∧ 0 < s.f ∧ H.get q = some (.cells (slotC s w) 28 true false) ∧ q < H.next ∧ Is H w s.l ∧ s.l.length ≤ 50 ∧ ∀ z, slBlock w = some z → 0 < s.l.length → ¬ footT b Q z
  uniq : ∀ (i j q : Nat) (w w' : AV), Q[i]? = some (some (q, w)) → Q[j]? = some (some (q, w')) → i = j
  lp : p < H.next
  lb : b < H.next
theorem Is.lt {H : Heap} {w : AV} {l : List Int} (h : Is H w l) (h0 : 0 < l.length) : ∀ z, slBlock w = some z → z < H.next := fun z hz => by
  obtain ⟨a, cap, ex, rfl, _, _⟩ := h.form
  obtain ⟨b', o, c, t, w', m, e, h1, _⟩ := Sl.at h h0
  subst e
  simp [slBlock] at hz
  subst hz
  exact h1
theorem Is.updq {H H' : Heap} {w : AV} {l : List Int} {fp : Nat → Prop} (h : Is H w l) (u : Upd fp H H') (hd : ∀ z, slBlock w = some z → 0 < l.length → ¬ fp z) : Is H' w l := Sl.upd h u hd
theorem TabG.lt {H : Heap} {p b : Nat} {Q : List RowQ} {L : List SlotT} (h : TabG H p b Q L) : ∀ z, footT b Q z → z < H.next := fun z hz => by
  rcases hz with rfl | ⟨i, w, hi⟩
  · exact h.lb
  · obtain ⟨s, _, _, _, h1, _⟩ := h.row i z w hi
    exact h1
theorem TabG.upd {H H' : Heap} {p b : Nat} {Q : List RowQ} {L : List SlotT} {fp : Nat → Prop} (h : TabG H p b Q L) (u : Upd fp H H') (h1 : ¬ fp p) (h2 : ∀ z, footT b Q z → ¬ fp z)
    (h3 : ∀ (i q : Nat) (w : AV) (s : SlotT), Q[i]? = some (some (q, w)) → L[i]? = some s → ∀ z, slBlock w = some z → 0 < s.l.length → ¬ fp z) : TabG H' p b Q L := by
  have hn := u.next
  have hlp := h.lp
  have hlb := h.lb
  refine ⟨h.len, (u.keep p hlp h1).trans h.gp, (u.keep b hlb (h2 b (.inl rfl))).trans h.gb, h.no, fun i q w hi => ?_, h.uniq, by omega, by omega⟩
  obtain ⟨s, e1, e2, e3, e4, e5, e6, e7⟩ := h.row i q w hi
  exact ⟨s, e1, e2, (u.keep q e4 (h2 q (.inr ⟨i, w, hi⟩))).trans e3, by omega, e5.updq u (h3 i q w s hi e1), e6, e7⟩
theorem TabG.kept {H H' : Heap} {p b : Nat} {Q : List RowQ} {L : List SlotT} (h : TabG H p b Q L) (k : Keep H H') : TabG H' p b Q L :=
  h.upd k id (fun _ _ => id) fun _ _ _ _ _ _ _ _ _ => id
theorem cells_ne {H : Heap} {x y : Nat} {c c' : List AV} {t t' : TypeId} {w w' m m' : Bool} (h1 : H.get x = some (.cells c t w m)) (h2 : H.get y = some (.cells c' t' w' m')) (ht : t ≠ t') : x ≠ y := by
  intro e
  subst e
  rw [h1] at h2
  injection h2 with h2
  injection h2 with _ h2 _ _
  exact ht h2
theorem foot_set {b i q : Nat} {Q : List RowQ} {w w' : AV} (hq : Q[i]? = some (some (q, w))) {z : Nat} : footT b (Q.set i (some (q, w'))) z ↔ footT b Q z := by
  have hil := qlt hq
  unfold footT
  constructor
  · rintro (h | ⟨j, u, hj⟩)
    · exact .inl h
    · by_cases hij : i = j
      · subst hij
        rw [List.getElem?_set_self hil] at hj
        simp at hj
        exact .inr ⟨i, w, by rw [hq, hj.1]⟩
      · rw [List.getElem?_set_ne hij] at hj
        exact .inr ⟨j, u, hj⟩
  · rintro (h | ⟨j, u, hj⟩)
    · exact .inl h
    · by_cases hij : i = j
      · subst hij
        rw [hq] at hj
        simp at hj
        exact .inr ⟨i, w', by rw [List.getElem?_set_self hil, hj.1]⟩
      · exact .inr ⟨j, u, by rw [List.getElem?_set_ne hij]; exact hj⟩
theorem map_set_row {Q : List RowQ} {i q : Nat} {w w' : AV} (hq : Q[i]? = some (some (q, w))) : (Q.set i (some (q, w'))).map rowP = Q.map rowP := by
  apply List.ext_getElem?
  intro j
  rw [List.getElem?_map, List.getElem?_map]
  by_cases hij : i = j
  · subst hij
    rw [List.getElem?_set_self (qlt hq), hq]
    rfl
  · rw [List.getElem?_set_ne hij]
/-- A slot is written. -/
theorem TabG.write {H : Heap} {p b i q : Nat} {Q : List RowQ} {L : List SlotT} {w : AV} (h : TabG H p b Q L) (hq : Q[i]? = some (some (q, w))) (s' : SlotT) (w' : AV) (hf : 0 < s'.f) (hI : Is H w' s'.l) (hl : s'.l.length ≤ 50) (ha : ∀ z, slBlock w' = some z → 0 < s'.l.length → ¬ footT b Q z) :
    TabG (H.set q (.cells (slotC s' w') 28 true false)) p b (Q.set i (some (q, w'))) (L.set i s') ∧ Upd (footT b Q) H (H.set q (.cells (slotC s' w') 28 true false)) := by
  obtain ⟨s, e1, e2, e3, e4, e5, e6, e7⟩ := h.row i q w hq
  have hqf : footT b Q q := .inr ⟨i, w, hq⟩
  have U : Upd (footT b Q) H (H.set q (.cells (slotC s' w') 28 true false)) := Upd.rfl.set _ e4 fun _ => hqf
  have hil := qlt hq
  have hiL := qlt e1
  refine ⟨⟨by rw [List.length_set, List.length_set]; exact h.len, ?_, ?_, fun j hj => ?_, fun j q2 w2 hj => ?_, fun j k q2 w2 w3 hj hk => ?_, by simp; exact h.lp, by simp; exact h.lb⟩, U⟩
  · rw [Heap.get_set_ne _ _ (cells_ne h.gp e3 (by decide)), List.length_set]; exact h.gp
  · rw [Heap.get_set_ne _ _ (cells_ne h.gb e3 (by decide)), map_set_row hq]; exact h.gb
  · by_cases hij : i = j
    · subst hij
      rw [List.getElem?_set_self hil] at hj
      cases hj
    · rw [List.getElem?_set_ne hij] at hj ⊢
      exact h.no j hj
  · by_cases hij : i = j
    · subst hij
      rw [List.getElem?_set_self hil] at hj
      simp at hj
      obtain ⟨rfl, rfl⟩ := hj
      refine ⟨s', List.getElem?_set_self hiL, hf, ?_, by simp; exact e4, hI.updq U ha, hl, fun z hz h0 hc => ha z hz h0 ((foot_set hq).1 hc)⟩
      rw [Heap.get_set, if_pos rfl]
    · rw [List.getElem?_set_ne hij] at hj
      obtain ⟨s2, f1, f2, f3, f4, f5, f6, f7⟩ := h.row j q2 w2 hj
      have hne : q2 ≠ q := fun e => by subst e; exact hij (h.uniq i j q2 w w2 hq hj)
      exact ⟨s2, by rw [List.getElem?_set_ne hij]; exact f1, f2, by rw [Heap.get_set_ne _ _ hne]; exact f3, by simp; exact f4, f5.updq U f7, f6, fun z hz h0 hc => f7 z hz h0 ((foot_set hq).1 hc)⟩
  · have back : ∀ (j q2 : Nat) (w2 : AV), (Q.set i (some (q, w')))[j]? = some (some (q2, w2)) → ∃ w4, Q[j]? = some (some (q2, w4)) := fun j q2 w2 hj => by
      by_cases hij : i = j
      · subst hij
        rw [List.getElem?_set_self hil] at hj
        simp at hj
        exact ⟨w, by rw [hq, hj.1]⟩
      · rw [List.getElem?_set_ne hij] at hj
        exact ⟨w2, hj⟩
    obtain ⟨u1, g1⟩ := back j q2 w2 hj
    obtain ⟨u2, g2⟩ := back k q2 w3 hk
    exact h.uniq j k q2 u1 u2 g1 g2
/-- A pointer is written. -/
theorem TabG.point {H : Heap} {p b i : Nat} {Q : List RowQ} {L : List SlotT} (h : TabG H p b Q L) (hi : i < L.length) (r : RowQ) (s : SlotT)
    (hr : (r = none ∧ s = zeroT) ∨ ∃ q w, r = some (q, w) ∧ 0 < s.f ∧ H.get q = some (.cells (slotC s w) 28 true false) ∧ q < H.next ∧ Is H w s.l ∧ s.l.length ≤ 50 ∧ (∀ z, slBlock w = some z → 0 < s.l.length → ¬ footT b Q z ∧ z ≠ q) ∧ ¬ footT b Q q ∧ ∀ (j q' : Nat) (w' : AV) (s' : SlotT), Q[j]? = some (some (q', w')) → L[j]? = some s' → 0 < s'.l.length → slBlock w' ≠ some q) :
    TabG (H.set b (.cells ((Q.map rowP).set i (rowP r)) 71 true false)) p b (Q.set i r) (L.set i s) ∧ Upd (footT b Q) H (H.set b (.cells ((Q.map rowP).set i (rowP r)) 71 true false)) ∧ ∀ z, footT b (Q.set i r) z → footT b Q z ∨ ∃ w, r = some (z, w) := by
  have U : Upd (footT b Q) H (H.set b (.cells ((Q.map rowP).set i (rowP r)) 71 true false)) := Upd.rfl.set _ h.lb fun _ => .inl rfl
  have hil : i < Q.length := by have := h.len; omega
  have hft : ∀ z, footT b (Q.set i r) z → footT b Q z ∨ ∃ w, r = some (z, w) := fun z hz => by
    rcases hz with e | ⟨j, w2, hj⟩
    · exact .inl (.inl e)
    · by_cases hij : i = j
      · subst hij
        rw [List.getElem?_set_self hil] at hj
        injection hj with hj
        exact .inr ⟨w2, hj⟩
      · rw [List.getElem?_set_ne hij] at hj
        exact .inl (.inr ⟨j, w2, hj⟩)
  refine ⟨⟨by rw [List.length_set, List.length_set]; exact h.len, ?_, ?_, fun j hj => ?_, fun j q2 w2 hj => ?_, fun j k q2 w2 w3 hj hk => ?_, by simp; exact h.lp, by simp; exact h.lb⟩, U, hft⟩
  · rw [Heap.get_set_ne _ _ (cells_ne h.gp h.gb (by decide)), List.length_set]; exact h.gp
  · rw [Heap.get_set, if_pos rfl, List.map_set]
  · by_cases hij : i = j
    · subst hij
      rw [List.getElem?_set_self hil] at hj
      rw [List.getElem?_set_self hi]
      rcases hr with ⟨_, e⟩ | ⟨q, w, e, _⟩
      · rw [e]
      · rw [e] at hj; cases hj
    · rw [List.getElem?_set_ne hij] at hj ⊢
      exact h.no j hj
  · by_cases hij : i = j
    · subst hij
      rw [List.getElem?_set_self hil] at hj
      injection hj with hj
      rcases hr with ⟨e, _⟩ | ⟨q, w, e, f2, f3, f4, f5, f6, f7, f8, f9⟩
      · rw [e] at hj; cases hj
      · rw [hj] at e
        injection e with e
        injection e with ea eb
        subst ea; subst eb
        have hqb : q2 ≠ b := cells_ne f3 h.gb (by decide)
        refine ⟨s, List.getElem?_set_self hi, f2, by rw [Heap.get_set_ne _ _ hqb]; exact f3, by simp; exact f4, f5.updq U fun z hz h0 => (f7 z hz h0).1, f6, fun z hz h0 hc => ?_⟩
        rcases hft z hc with g | ⟨w3, g⟩
        · exact (f7 z hz h0).1 g
        · rw [hj] at g
          injection g with g
          injection g with g _
          exact (f7 z hz h0).2 g.symm
    · rw [List.getElem?_set_ne hij] at hj
      obtain ⟨s2, f1, f2, f3, f4, f5, f6, f7⟩ := h.row j q2 w2 hj
      have hqb : q2 ≠ b := cells_ne f3 h.gb (by decide)
      refine ⟨s2, by rw [List.getElem?_set_ne hij]; exact f1, f2, by rw [Heap.get_set_ne _ _ hqb]; exact f3, by simp; exact f4, f5.updq U f7, f6, fun z hz h0 hc => ?_⟩
      rcases hft z hc with g | ⟨w3, g⟩
      · exact f7 z hz h0 g
      · rcases hr with ⟨e, _⟩ | ⟨q, w, e, g2, g3, g4, g5, g6, g7, g8, g9⟩
        · rw [e] at g; cases g
        · rw [g] at e
          injection e with e
          injection e with ea eb
          subst ea
          exact g9 j q2 w2 s2 hj f1 h0 hz
  · have back : ∀ (j q2 : Nat) (w2 : AV), (Q.set i r)[j]? = some (some (q2, w2)) → (j = i ∧ r = some (q2, w2)) ∨ (j ≠ i ∧ Q[j]? = some (some (q2, w2))) := fun j q2 w2 hj => by
      by_cases hij : i = j
      · subst hij
        rw [List.getElem?_set_self hil] at hj
        injection hj with hj
        exact .inl ⟨rfl, hj⟩
      · rw [List.getElem?_set_ne hij] at hj
        exact .inr ⟨fun e => hij e.symm, hj⟩
    have never : ∀ (j q2 : Nat) (w2 w3 : AV), r = some (q2, w2) → Q[j]? = some (some (q2, w3)) → False := fun j q2 w2 w3 e hj => by
      rcases hr with ⟨e', _⟩ | ⟨q, w, e', g2, g3, g4, g5, g6, g7, g8, g9⟩
      · rw [e] at e'; cases e'
      · rw [e] at e'
        injection e' with e'
        injection e' with ea eb
        subst ea
        exact g8 (.inr ⟨j, w3, hj⟩)
    rcases back j q2 w2 hj with ⟨rfl, g1⟩ | ⟨g1, g2⟩
    · rcases back k q2 w3 hk with ⟨rfl, g3⟩ | ⟨g3, g4⟩
      · rfl
      · exact (never k q2 w2 w3 g1 g4).elim
    · rcases back k q2 w3 hk with ⟨rfl, g3⟩ | ⟨g3, g4⟩
      · exact (never j q2 w3 w2 g3 g2).elim
      · exact h.uniq j k q2 w2 w3 g2 g4
/-- A new slot. -/
theorem TabG.putw {H0 H : Heap} {p b i q : Nat} {Q : List RowQ} {L : List SlotT} {s : SlotT} {w : AV} (h : TabG H0 p b Q L) (k : Keep H0 H) (hi : i < L.length) (hf : 0 < s.f) (hg : H.get q = some (.cells (slotC s w) 28 true false)) (h0 : H0.next ≤ q) (hq : q < H.next) (hI : Is H w s.l) (hl : s.l.length ≤ 50) (hw : ∀ z, slBlock w = some z → 0 < s.l.length → H0.next ≤ z ∧ z ≠ q) :
    TabG (H.set b (.cells ((Q.map rowP).set i (.ptr (some (q, 0)))) 71 true false)) p b (Q.set i (some (q, w))) (L.set i s) ∧ Upd (footT b Q) H0 (H.set b (.cells ((Q.map rowP).set i (.ptr (some (q, 0)))) 71 true false)) ∧ (∀ z, footT b (Q.set i (some (q, w))) z → footT b Q z ∨ H0.next ≤ z) ∧
    ∀ x H', H0.next ≤ x → x ≠ q → slBlock w ≠ some x → Upd (fun z => z = x) (H.set b (.cells ((Q.map rowP).set i (.ptr (some (q, 0)))) 71 true false)) H' → TabG H' p b (Q.set i (some (q, w))) (L.set i s) := by
  have hnf : ∀ z, H0.next ≤ z → ¬ footT b Q z := fun z hz hc => by have := h.lt z hc; omega
  have hold : ∀ (j q' : Nat) (w' : AV) (s' : SlotT), Q[j]? = some (some (q', w')) → L[j]? = some s' → 0 < s'.l.length → ∀ z, slBlock w' = some z → z < H0.next := fun j q' w' s' hj hs' h0' z hz => by
    obtain ⟨s2, f1, f2, f3, f4, f5, f6, f7⟩ := h.row j q' w' hj
    rw [f1] at hs'
    injection hs' with hs'
    subst hs'
    exact f5.lt h0' z hz
  obtain ⟨h1, h2, h3⟩ := (h.kept k).point hi (some (q, w)) s (.inr ⟨q, w, rfl, hf, hg, hq, hI, hl, fun z hz hp => ⟨hnf z (hw z hz hp).1, (hw z hz hp).2⟩, hnf q h0, fun j q' w' s' hj hs' h0' hz => by
    have := hold j q' w' s' hj hs' h0' q hz
    omega⟩)
  have hft : ∀ z, footT b (Q.set i (some (q, w))) z → footT b Q z ∨ z = q := fun z hz => by
    rcases h3 z hz with g | ⟨w3, g⟩
    · exact .inl g
    · injection g with g
      injection g with g _
      exact .inr g.symm
  have hlp := h.lp
  refine ⟨h1, (Upd.of k).trans h2 fun _ _ h => h, fun z hz => ?_, fun x H' hx hxq hxw hu => h1.upd hu (fun e => by omega) (fun z hz e => ?_) fun j q' w' s' hj hs' z hz h0' e => ?_⟩
  · rcases hft z hz with g | g
    · exact .inl g
    · exact .inr (by omega)
  · rcases hft z hz with g | g
    · have := h.lt z g; omega
    · omega
  · subst e
    by_cases hij : i = j
    · subst hij
      rw [List.getElem?_set_self (by have := h.len; omega)] at hj
      injection hj with hj
      injection hj with hj
      injection hj with _ hj
      rw [← hj] at hz
      exact hxw hz
    · rw [List.getElem?_set_ne hij] at hj hs'
      have := hold j q' w' s' hj hs' h0' z hz
      omega
theorem TabG.put {H0 H : Heap} {p b i q : Nat} {Q : List RowQ} {L : List SlotT} {s : SlotT} {w : AV} (h : TabG H0 p b Q L) (k : Keep H0 H) (hi : i < L.length) (hf : 0 < s.f) (hg : H.get q = some (.cells (slotC s w) 28 true false)) (h0 : H0.next ≤ q) (hq : q < H.next) (hI : Is H w s.l) (hl : s.l.length ≤ 50) (hw : ∀ z, slBlock w = some z → H0.next ≤ z ∧ z ≠ q) :
    TabG (H.set b (.cells ((Q.map rowP).set i (.ptr (some (q, 0)))) 71 true false)) p b (Q.set i (some (q, w))) (L.set i s) ∧ Upd (footT b Q) H0 (H.set b (.cells ((Q.map rowP).set i (.ptr (some (q, 0)))) 71 true false)) ∧ (∀ z, footT b (Q.set i (some (q, w))) z → footT b Q z ∨ H0.next ≤ z) ∧
    ∀ x H', H0.next ≤ x → x ≠ q → slBlock w ≠ some x → Upd (fun z => z = x) (H.set b (.cells ((Q.map rowP).set i (.ptr (some (q, 0)))) 71 true false)) H' → TabG H' p b (Q.set i (some (q, w))) (L.set i s) := h.putw k hi hf hg h0 hq hI hl fun z hz _ => hw z hz
theorem TabG.short {H : Heap} {p b : Nat} {Q : List RowQ} {L : List SlotT} (h : TabG H p b Q L) {i : Nat} {s : SlotT} (hs : L[i]? = some s) : s.l.length ≤ 50 := by
  have hi := qlt hs
  obtain ⟨r, hr⟩ : ∃ r, Q[i]? = some r := ⟨Q[i]'(by have := h.len; omega), by simp⟩
  cases r with
  | none =>
    rw [h.no i hr] at hs
    injection hs with hs
    subst hs
    simp [zeroT]
  | some x =>
    obtain ⟨s2, f1, f2, f3, f4, f5, f6, f7⟩ := h.row i x.1 x.2 hr
    rw [f1] at hs
    injection hs with hs
    subst hs
    exact f6
theorem TabG.none_iff {H : Heap} {p b : Nat} {Q : List RowQ} {L : List SlotT} (h : TabG H p b Q L) {i : Nat} {s : SlotT} (hs : L[i]? = some s) : (s.f = 0 ∧ s = zeroT ∧ Q[i]? = some none) ∨ (0 < s.f ∧ ∃ q w, Q[i]? = some (some (q, w)) ∧ H.get q = some (.cells (slotC s w) 28 true false) ∧ q < H.next ∧ Is H w s.l ∧ s.l.length ≤ 50 ∧ ∀ z, slBlock w = some z → 0 < s.l.length → ¬ footT b Q z) := by
  have hi := qlt hs
  obtain ⟨r, hr⟩ : ∃ r, Q[i]? = some r := ⟨Q[i]'(by have := h.len; omega), by simp⟩
  cases r with
  | none =>
    rw [h.no i hr] at hs
    injection hs with hs
    subst hs
    exact .inl ⟨rfl, rfl, hr⟩
  | some x =>
    obtain ⟨s2, f1, f2, f3, f4, f5, f6, f7⟩ := h.row i x.1 x.2 hr
    rw [f1] at hs
    injection hs with hs
    subst hs
    exact .inr ⟨f2, x.1, x.2, hr, f3, f4, f5, f6, f7⟩
end Go.Abs

/- Chapter 13: get, free, Put, Set, Take at any table, walked. -/
namespace Go.Abs
open Go.Proofs
set_option maxRecDepth 100000
set_option linter.unusedVariables false
set_option linter.unusedSimpArgs false

def noS (L : List SlotT) (fd : Int) : Prop := ∀ i : Nat, fd = i → ∀ s, L[i]? = some s → s.f = 0
theorem get36g_ok {H : Heap} {p b : Nat} {Q : List RowQ} {L : List SlotT} (h : TabG H p b Q L) (hn : L.length ≤ 64) (fd : Int) : Cl Try.prog pr13 36 [.ptr (some (p, 0)), .int .i64 fd] H fun r H' => H' = H ∧ ((noS L fd ∧ r = .tuple [.ptr none, .int .i64 9]) ∨ ∃ (i q : Nat) (w : AV) (s : SlotT), fd = i ∧ Q[i]? = some (some (q, w)) ∧ L[i]? = some s ∧ 0 < s.f ∧ H.get q = some (.cells (slotC s w) 28 true false) ∧ q < H.next ∧ Is H w s.l ∧ s.l.length ≤ 50 ∧ (∀ z, slBlock w = some z → 0 < s.l.length → ¬ footT b Q z) ∧ r = .tuple [.ptr (some (q, 0)), .int .i64 0]) := by
  have gp := h.gp
  have gb := h.gb
  have hl := h.len
  have hrl : (Q.map rowP).length = L.length := by rw [List.length_map]; exact hl
  by_cases h0 : fd < 0
  · refine Cl.enter Try.func36 rfl rfl Try.ntmps36 (by simp) ?_
    refine walk h0 ?_
    exact ⟨rfl, .inl ⟨fun i e => by omega, rfl⟩⟩
  · obtain ⟨n, rfl⟩ : ∃ n : Nat, fd = n := ⟨fd.toNat, by omega⟩
    by_cases h1 : n < L.length
    · obtain ⟨s, hs⟩ := geti_lt h1
      have hlI : (n : Int) < L.length := by omega
      rcases h.none_iff hs with ⟨e1, e2, e3⟩ | ⟨f1, q, w, f2, f3, f4, f5, f6, f7⟩
      · have hr : (Q.map rowP)[n]? = some (.ptr none) := by rw [List.getElem?_map, e3]; rfl
        generalize Q.map rowP = R at *
        have hil : n < R.length := by omega
        refine Cl.enter Try.func36 rfl rfl Try.ntmps36 (by simp) ?_
        refine walk (both gp (both gb (both h1 (both hlI (both hr hil))))) ?_
        refine ⟨rfl, .inl ⟨fun i e s' hs' => ?_, rfl⟩⟩
        obtain rfl : n = i := by omega
        rw [hs] at hs'
        injection hs' with hs'
        rw [← hs', e1]
      · have hr : (Q.map rowP)[n]? = some (.ptr (some (q, 0))) := by rw [List.getElem?_map, f2]; rfl
        have hR : Q.map rowP = Q.map rowP := rfl
        generalize hRR : Q.map rowP = R at *
        have hil : n < R.length := by omega
        refine Cl.enter Try.func36 rfl rfl Try.ntmps36 (by simp) ?_
        refine walk (both gp (both gb (both h1 (both hlI (both hr hil))))) ?_
        exact ⟨rfl, .inr ⟨n, q, w, s, rfl, f2, hs, f1, f3, f4, f5, f6, f7, rfl⟩⟩
    · have hlI : ¬ (n : Int) < L.length := by omega
      refine Cl.enter Try.func36 rfl rfl Try.ntmps36 (by simp) ?_
      refine walk (both gp (both gb (both h1 hlI))) ?_
      refine ⟨rfl, .inl ⟨fun i e s' hs' => ?_, rfl⟩⟩
      have := qlt hs'
      omega
theorem nilne71 (q : Nat × Nat) (H : Heap) : binR Try.prog .eql 71 (some (.ptr none)) (some (.ptr (some q))) H = some (.bool false, H) := by
  obtain ⟨_, h⟩ := isPtrT_of (show isPtrT Try.prog 71 = true by kernel_rfl)
  simp [binR, binSem, eqSem, Sm.run, h]
theorem index54_ok {H : Heap} {b o n cap : Nat} {R : List AV} (gb : H.get b = some (.cells R 71 true false)) (hRl : o + n ≤ R.length) (hn : n ≤ 64) (hcap : n ≤ cap) (hR : ∀ i, o ≤ i → i < o + n → R[i]? = some (.ptr none) ∨ ∃ q : Nat, R[i]? = some (.ptr (some (q, 0)))) : Cl Try.prog pr13 54 [.slice (some (b, o)) n cap none, .ptr none] H fun r H' => H' = H ∧ ((∃ k : Nat, r = .int .i64 k ∧ k < n ∧ R[o + k]? = some (.ptr none) ∧ ∀ j < k, R[o + j]? ≠ some (.ptr none)) ∨ (r = .int .i64 (-1) ∧ ∀ j < n, R[o + j]? ≠ some (.ptr none))) := by
  refine Cl.enter Try.func54 rfl rfl Try.ntmps54 (by simp) ?_
  refine walk none0 ?_
  refine Wq.loop (fun m e H' => ∃ i : Nat, i ≤ n ∧ m = n - i ∧ H' = H ∧ e 0 = .slice (some (b, o)) n cap none ∧ e 1 = .ptr none ∧ e 7 = .int .i64 n ∧ e 8 = .int .i64 i ∧ ∀ j < i, R[o + j]? ≠ some (.ptr none)) n ?_ ?_
  · exact ⟨0, by omega, by omega, rfl, by simp, by simp, by simp, by simp, fun j hj => by omega⟩
  · rintro m e H' ⟨i, hi, rfl, rfl, g0, g1, g7, g8, hlo⟩
    by_cases hlt : i < n
    · have hil : o + i < R.length := by omega
      have hlI : (i : Int) < n := by omega
      rcases hR (o + i) (by omega) (by omega) with hr | ⟨q, hr⟩
      · refine walk (both g0 (both g1 (both g7 (both g8 (both hlt (both hlI (both gb (both hr hil)))))))) ?_
        exact ⟨rfl, .inl ⟨i, rfl, hlt, hr, hlo⟩⟩
      · have hne := nilne71 (q, 0)
        refine walk (both g0 (both g1 (both g7 (both g8 (both hlt (both hlI (both gb (both hr (both hil hne))))))))) ?_
        refine Roundq.normal (n - (i + 1)) (by omega) ⟨i + 1, by omega, rfl, rfl, by simp [g0], by simp [g1], by simp [g7], by simp, fun j hj => ?_⟩
        rcases Nat.lt_or_ge j i with h | h
        · exact hlo j h
        · obtain rfl : j = i := by omega
          rw [hr]; simp
    · have hlI : ¬ (i : Int) < n := by omega
      refine walk (both g0 (both g1 (both g7 (both g8 (both hlt hlI))))) ?_
      exact ⟨rfl, .inr ⟨rfl, fun j hj => hlo j (by omega)⟩⟩
def FreeR (L : List SlotT) (fd n e : Int) : Prop :=
  ((fd < 0 ∨ (L.length : Int) ≤ fd) ∧ n = 0 ∧ e = 22) ∨ (∃ a k : Nat, fd = a ∧ a ≤ k ∧ (∃ s, L[k]? = some s ∧ s.f = 0) ∧ (∀ j, a ≤ j → j < k → ∀ s, L[j]? = some s → s.f ≠ 0) ∧ n = k ∧ e = 0) ∨
  ((∃ a : Nat, fd = a ∧ a < L.length ∧ ∀ j, a ≤ j → ∀ s, L[j]? = some s → s.f ≠ 0) ∧ n = 0 ∧ e = 24)
theorem FreeR.one {L : List SlotT} {fd n n' e e' : Int} (h : FreeR L fd n e) (g : FreeR L fd n' e') : n = n' ∧ e = e' := by
  rcases h with ⟨h1, rfl, rfl⟩ | ⟨a, k, rfl, h1, ⟨s, h2, h3⟩, h4, rfl, rfl⟩ | ⟨⟨a, rfl, h1, h2⟩, rfl, rfl⟩
  · rcases g with ⟨g1, rfl, rfl⟩ | ⟨a', k', rfl, g1, ⟨s', g2, g3⟩, g4, rfl, rfl⟩ | ⟨⟨a', rfl, g1, g2⟩, rfl, rfl⟩
    · exact ⟨rfl, rfl⟩
    · have := qlt g2; omega
    · omega
  · have := qlt h2
    rcases g with ⟨g1, rfl, rfl⟩ | ⟨a', k', e1, g1, ⟨s', g2, g3⟩, g4, rfl, rfl⟩ | ⟨⟨a', e1, g1, g2⟩, rfl, rfl⟩
    · omega
    · obtain rfl : a = a' := by omega
      rcases Nat.lt_trichotomy k k' with hk | rfl | hk
      · exact absurd h3 (g4 k h1 hk s h2)
      · exact ⟨rfl, rfl⟩
      · exact absurd g3 (h4 k' g1 hk s' g2)
    · obtain rfl : a = a' := by omega
      exact absurd h3 (g2 k h1 s h2)
  · rcases g with ⟨g1, rfl, rfl⟩ | ⟨a', k', e1, g1, ⟨s', g2, g3⟩, g4, rfl, rfl⟩ | ⟨⟨a', e1, g1, g2⟩, rfl, rfl⟩
    · omega
    · obtain rfl : a = a' := by omega
      exact absurd g3 (h2 k' g1 s' g2)
    · exact ⟨rfl, rfl⟩
theorem TabG.nilAt {H : Heap} {p b : Nat} {Q : List RowQ} {L : List SlotT} (h : TabG H p b Q L) {i : Nat} {s : SlotT} (hs : L[i]? = some s) : ((Q.map rowP)[i]? = some (.ptr none) ∧ s.f = 0) ∨ ∃ q : Nat, (Q.map rowP)[i]? = some (.ptr (some (q, 0))) ∧ s.f ≠ 0 := by
  rcases h.none_iff hs with ⟨e1, e2, e3⟩ | ⟨f1, q, w, f2, _⟩
  · exact .inl ⟨by rw [List.getElem?_map, e3]; rfl, e1⟩
  · exact .inr ⟨q, by rw [List.getElem?_map, f2]; rfl, by omega⟩
theorem free34g_ok {H : Heap} {p b : Nat} {Q : List RowQ} {L : List SlotT} (h : TabG H p b Q L) (hn : L.length ≤ 64) (fd : Int) : Cl Try.prog pr13 34 [.ptr (some (p, 0)), .int .i64 fd] H fun r H' => H' = H ∧ ∃ n e, r = .tuple [.int .i64 n, .int .i64 e] ∧ FreeR L fd n e := by
  have gp := h.gp
  have gb := h.gb
  have hl := h.len
  have hrl : (Q.map rowP).length = L.length := by rw [List.length_map]; exact hl
  by_cases h0 : fd < 0
  · refine Cl.enter Try.func34 rfl rfl Try.ntmps34 (by simp) ?_
    refine walk h0 ?_
    exact ⟨rfl, _, _, rfl, .inl ⟨.inl h0, rfl, rfl⟩⟩
  · obtain ⟨a, rfl⟩ : ∃ a : Nat, fd = a := ⟨fd.toNat, by omega⟩
    by_cases h1 : a < L.length
    · have hlI : (a : Int) < L.length := by omega
      have hnil := fun (i : Nat) (s : SlotT) (hs : L[i]? = some s) => h.nilAt hs
      generalize hRR : Q.map rowP = R at *
      have hix := index54_ok (b := b) (o := a) (n := L.length - a) (cap := L.length - a) (R := R) gb (by omega) (by omega) (by omega) fun i h2 h3 => by
        obtain ⟨s, hs⟩ := geti_lt (l := L) (i := i) (by omega)
        rcases hnil i s hs with ⟨g, _⟩ | ⟨q, g, _⟩
        · exact .inl g
        · exact .inr ⟨q, g⟩
      refine Cl.enter Try.func34 rfl rfl Try.ntmps34 (by simp) ?_
      refine walk (both gp (both h1 hlI)) ?_
      refine hix.mono fun r H1 _ ⟨ea, eb⟩ => ?_
      subst ea
      rcases eb with ⟨k, rfl, k1, k2, k3⟩ | ⟨rfl, k1⟩
      · refine walk none0 ?_
        refine ⟨rfl, _, _, rfl, .inr (.inl ⟨a, a + k, rfl, by omega, ?_, fun j h2 h3 s hs => ?_, by omega, rfl⟩)⟩
        · obtain ⟨s, hs⟩ := geti_lt (l := L) (i := a + k) (by omega)
          rcases hnil _ s hs with ⟨_, g⟩ | ⟨q, g, _⟩
          · exact ⟨s, hs, g⟩
          · rw [k2] at g; cases g
        · rcases hnil _ s hs with ⟨g, _⟩ | ⟨q, _, g⟩
          · have := k3 (j - a) (by omega)
            rw [show a + (j - a) = j by omega] at this
            exact absurd g this
          · exact g
      · refine walk none0 ?_
        refine ⟨rfl, _, _, rfl, .inr (.inr ⟨⟨a, rfl, h1, fun j h2 s hs => ?_⟩, rfl, rfl⟩)⟩
        have := qlt hs
        rcases hnil _ s hs with ⟨g, _⟩ | ⟨q, _, g⟩
        · have := k1 (j - a) (by omega)
          rw [show a + (j - a) = j by omega] at this
          exact absurd g this
        · exact g
    · have hlI : ¬ (a : Int) < L.length := by omega
      refine Cl.enter Try.func34 rfl rfl Try.ntmps34 (by simp) ?_
      refine walk (both gp (both hlI h1)) ?_
      exact ⟨rfl, _, _, rfl, .inl ⟨.inr (by omega), rfl, rfl⟩⟩
end Go.Abs

/- Chapter 13: Get, Put, Set, Take at any table, walked. -/
namespace Go.Abs
open Go.Proofs
set_option maxRecDepth 100000
set_option linter.unusedVariables false
set_option linter.unusedSimpArgs false

def getE (L : List SlotT) (fd : Int) (need : BitVec 32) : Int := if fd < 0 then 9 else match L[fd.toNat]? with
  | none => 9
  | some s => if s.f = 0 then 9 else if need &&& ~~~s.r = 0#32 then 0 else 93
def slotG (L : List SlotT) (fd : Int) (need : BitVec 32) : SlotT := if getE L fd need = 0 then (L[fd.toNat]?).getD zeroT else zeroT
theorem getE_no {L : List SlotT} {fd : Int} (need : BitVec 32) (h : noS L fd) : getE L fd need = 9 := by
  unfold getE
  split
  · rfl
  · rename_i h0
    split
    · rfl
    · rename_i s hs
      rw [if_pos (h fd.toNat (by omega) s hs)]
theorem getE_at {L : List SlotT} {i : Nat} {s : SlotT} (need : BitVec 32) (hs : L[i]? = some s) (hf : s.f ≠ 0) : getE L i need = if need &&& ~~~s.r = 0#32 then 0 else 93 := by
  unfold getE
  rw [if_neg (by omega), Int.toNat_natCast, hs]
  simp only [hf, if_false]
theorem slotG_at {L : List SlotT} {i : Nat} {s : SlotT} {need : BitVec 32} (hs : L[i]? = some s) (hf : s.f ≠ 0) (hr : need &&& ~~~s.r = 0#32) : slotG L i need = s := by
  unfold slotG
  rw [getE_at need hs hf, if_pos hr, if_pos rfl, Int.toNat_natCast, hs]
  rfl
theorem slotG_no {L : List SlotT} {fd : Int} {need : BitVec 32} (h : getE L fd need ≠ 0) : slotG L fd need = zeroT := by
  unfold slotG
  rw [if_neg h]
theorem zeroC : slotC zeroT (.slice none 0 0 none) = [.int .i64 0, .int .u32 0, .bool false, .slice none 0 0 none, .int .i64 0] := rfl
theorem is_nil (H : Heap) : Is H (.slice none 0 0 none) [] := Sl.nil
theorem Get12g_ok {H : Heap} {p b : Nat} {Q : List RowQ} {L : List SlotT} (h : TabG H p b Q L) (hn : L.length ≤ 64) (fd : Int) (need : BitVec 32) : Cl Try.prog pr13 12 [.ptr (some (p, 0)), .int .i64 fd, .int .u32 need.toNat] H fun r H' => Keep H H' ∧ ∃ u, r = .tuple [.agg (slotC (slotG L fd need) u), .int .i64 (getE L fd need)] ∧ Is H' u (slotG L fd need).l ∧ ∀ z, slBlock u = some z → H.next ≤ z := by
  have kT : Keep H (H.push (.cells [.int .i64 0, .int .u32 0, .bool false, .slice none 0 0 none, .int .i64 0] 28 true false)) := Upd.rfl.push _
  have gT : (H.push (.cells [.int .i64 0, .int .u32 0, .bool false, .slice none 0 0 none, .int .i64 0] 28 true false)).get H.next = some (.cells [.int .i64 0, .int .u32 0, .bool false, .slice none 0 0 none, .int .i64 0] 28 true false) := by simp
  have nT : H.next < (H.push (.cells [.int .i64 0, .int .u32 0, .bool false, .slice none 0 0 none, .int .i64 0] 28 true false)).next := by simp
  have h1 := h.kept kT
  refine Cl.enter Try.func12 rfl rfl Try.ntmps12 (by simp) ?_
  refine walk none0 ?_
  generalize H.push (.cells [.int .i64 0, .int .u32 0, .bool false, .slice none 0 0 none, .int .i64 0] 28 true false) = H1 at *
  refine (get36g_ok h1 hn fd).mono fun r H2 _ ⟨ea, eb⟩ => ?_
  subst ea
  rcases eb with ⟨hno, rfl⟩ | ⟨i, q, w, s, rfl, e1, e2, e3, gq, e5, e6, e7, e8, rfl⟩
  · have hE := getE_no need hno
    rw [slotG_no (by rw [hE]; decide), hE]
    refine walk gT ?_
    exact ⟨kT.set _ nT (by omega), _, rfl, is_nil _, fun z h => by simp [slBlock] at h⟩
  · have hE := getE_at need e2 (by omega)
    have hsub := fun H => subset37_ok need s.r H
    by_cases hr : need &&& ~~~s.r = 0#32
    · rw [slotG_at e2 (by omega) hr, hE, if_pos hr]
      rw [decide_eq_true hr] at hsub
      have ho := own35_ok (s := s) e6 (by omega)
      clear hE
      obtain ⟨f, rr, a, l, m⟩ := s
      unfold slotC at gq ho ⊢
      simp only [] at gq ho hsub e3 ⊢
      obtain ⟨va, vc, vx, rfl, hvc, hvx⟩ := e6.form
      simp only [] at gq ho hsub ⊢
      refine walk gq ?_
      refine (hsub _).mono fun r H3 _ ⟨ea, eb⟩ => ?_
      subst ea; subst eb
      refine walk gq ?_
      refine ho.mono fun r H4 _ ⟨k4, u, ea, iu, hu⟩ => ?_
      subst ea
      obtain ⟨ua, uc, ux, rfl, huc, hux⟩ := iu.form
      have gT4 := (k4.get nT).trans gT
      have n4 : H.next < H4.next := Nat.lt_of_lt_of_le nT k4.next
      refine walk gT4 ?_
      exact ⟨(kT.then k4).set _ n4 (by omega), _, rfl, Sl.set iu _ (fun e => by have := hu _ e; omega), fun z h => by have := hu z h; have := kT.next; omega⟩
    · rw [slotG_no (by rw [hE, if_neg hr]; decide), hE, if_neg hr]
      rw [decide_eq_false hr] at hsub
      clear hE
      obtain ⟨f, rr, a, l, m⟩ := s
      unfold slotC at gq
      simp only [] at gq hsub e3
      refine walk gq ?_
      refine (hsub _).mono fun r H3 _ ⟨ea, eb⟩ => ?_
      subst ea; subst eb
      refine walk gT ?_
      exact ⟨kT.set _ nT (by omega), _, rfl, is_nil _, fun z h => by simp [slBlock] at h⟩
theorem Get12z_ok {H : Heap} {p b : Nat} {Q : List RowQ} {L : List SlotT} (h : TabG H p b Q L) (hn : L.length ≤ 64) (fd : Int) : Cl Try.prog pr13 12 [.ptr (some (p, 0)), .int .i64 fd, .int .u32 0] H fun r H' => Keep H H' ∧ ∃ u, r = .tuple [.agg (slotC (slotG L fd 0#32) u), .int .i64 (getE L fd 0#32)] ∧ Is H' u (slotG L fd 0#32).l ∧ ∀ z, slBlock u = some z → H.next ≤ z := Get12g_ok h hn fd 0#32
/-- What Put tells. -/
def PutR (L : List SlotT) (fd : Int) (s : SlotT) (L' : List SlotT) (n e : Int) : Prop :=
  (canS s = false ∧ L' = L ∧ n = 0 ∧ e = 22) ∨ (canS s = true ∧ ∃ k f, FreeR L fd k f ∧ ((f ≠ 0 ∧ L' = L ∧ n = 0 ∧ e = f) ∨ (f = 0 ∧ L' = L.set k.toNat s ∧ n = k ∧ e = 0)))
theorem PutR.one {L M M' : List SlotT} {fd n n' e e' : Int} {s : SlotT} (h : PutR L fd s M n e) (g : PutR L fd s M' n' e') : M = M' ∧ n = n' ∧ e = e' := by
  rcases h with ⟨h1, rfl, rfl, rfl⟩ | ⟨h1, k, f, h2, h3⟩
  · rcases g with ⟨g1, rfl, rfl, rfl⟩ | ⟨g1, _⟩
    · exact ⟨rfl, rfl, rfl⟩
    · rw [h1] at g1; cases g1
  · rcases g with ⟨g1, _⟩ | ⟨g1, k', f', g2, g3⟩
    · rw [h1] at g1; cases g1
    · obtain ⟨rfl, rfl⟩ := h2.one g2
      rcases h3 with ⟨h3, rfl, rfl, rfl⟩ | ⟨h3, rfl, rfl, rfl⟩
      · rcases g3 with ⟨g3, rfl, rfl, rfl⟩ | ⟨g3, rfl, rfl, rfl⟩
        · exact ⟨rfl, rfl, rfl⟩
        · exact absurd g3 h3
      · rcases g3 with ⟨g3, rfl, rfl, rfl⟩ | ⟨g3, rfl, rfl, rfl⟩
        · exact absurd h3 g3
        · exact ⟨rfl, rfl, rfl⟩
theorem PutR.len {L M : List SlotT} {fd n e : Int} {s : SlotT} (h : PutR L fd s M n e) : M.length = L.length := by
  rcases h with ⟨h1, rfl, rfl, rfl⟩ | ⟨h1, k, f, h2, ⟨h3, rfl, rfl, rfl⟩ | ⟨h3, rfl, rfl, rfl⟩⟩
  · rfl
  · rfl
  · exact List.length_set
theorem canS_pos {s : SlotT} (h : canS s = true) : 0 < s.f := by
  unfold canS at h
  simp only [Bool.and_eq_true, decide_eq_true_eq] at h
  exact h.1.1
/-- What comes of an act at a table. -/
def ActT (H : Heap) (p b : Nat) (Q : List RowQ) (L' : List SlotT) (H' : Heap) : Prop :=
  Upd (footT b Q) H H' ∧ ∃ Q', TabG H' p b Q' L' ∧ ∀ z, footT b Q' z → footT b Q z ∨ H.next ≤ z
theorem ActT.same {H H' : Heap} {p b : Nat} {Q : List RowQ} {L : List SlotT} (h : TabG H p b Q L) (k : Keep H H') : ActT H p b Q L H' := ⟨Upd.of k, Q, h.kept k, fun z hz => .inl hz⟩
/-- And whence the lists are. -/
def ActP (H : Heap) (p b : Nat) (Q : List RowQ) (L' : List SlotT) (H' : Heap) : Prop :=
  Upd (footT b Q) H H' ∧ ∃ Q', TabG H' p b Q' L' ∧ (∀ z, footT b Q' z → footT b Q z ∨ H.next ≤ z) ∧ ∀ (i q : Nat) (w : AV), Q'[i]? = some (some (q, w)) → Q[i]? = some (some (q, w)) ∨ ∀ z, slBlock w = some z → H.next ≤ z
theorem ActP.same {H H' : Heap} {p b : Nat} {Q : List RowQ} {L : List SlotT} (h : TabG H p b Q L) (k : Keep H H') : ActP H p b Q L H' := ⟨Upd.of k, Q, h.kept k, fun z hz => .inl hz, fun i q w h => .inl h⟩
theorem ActP.act {H H' : Heap} {p b : Nat} {Q : List RowQ} {L : List SlotT} (h : ActP H p b Q L H') : ActT H p b Q L H' := ⟨h.1, h.2.choose, h.2.choose_spec.1, h.2.choose_spec.2.1⟩
theorem rows_set {Q : List RowQ} {N k q0 : Nat} {w0 : AV} (h0 : ∀ z, slBlock w0 = some z → N ≤ z) : ∀ (i q : Nat) (w : AV), (Q.set k (some (q0, w0)))[i]? = some (some (q, w)) → Q[i]? = some (some (q, w)) ∨ ∀ z, slBlock w = some z → N ≤ z := fun i q w hi => by
  by_cases hki : k = i
  · subst hki
    by_cases hk : k < Q.length
    · rw [List.getElem?_set_self hk] at hi
      injection hi with hi
      injection hi with hi
      injection hi with _ hi
      rw [← hi]
      exact .inr h0
    · rw [List.getElem?_eq_none (by simp; omega)] at hi
      cases hi
  · rw [List.getElem?_set_ne hki] at hi
    exact .inl hi
theorem Put11g_ok {H : Heap} {p b : Nat} {Q : List RowQ} {L : List SlotT} {s : SlotT} {v : AV} (h : TabG H p b Q L) (hn : L.length ≤ 64) (fd : Int) (hv : Is H v s.l) (hl : s.l.length ≤ 50) : Cl Try.prog pr13 11 [.ptr (some (p, 0)), .int .i64 fd, .agg (slotC s v)] H fun r H' => ∃ L' n e, r = .tuple [.int .i64 n, .int .i64 e] ∧ PutR L fd s L' n e ∧ ActP H p b Q L' H' := by
  have kB : Keep H (H.push (.cells (slotC s v) 28 true false)) := Upd.rfl.push _
  have gB : (H.push (.cells (slotC s v) 28 true false)).get H.next = some (.cells (slotC s v) 28 true false) := by simp
  have nB : H.next < (H.push (.cells (slotC s v) 28 true false)).next := by simp
  have hB := hv.kept kB
  have hc := fun H' (k : Keep H H') => can33g_ok (s := s) (hv.kept k) (by omega)
  have ho := fun H' (k : Keep H H') => own35_ok (s := s) (hv.kept k) (by omega)
  have hpos := fun h => canS_pos (s := s) h
  generalize hcs : canS s = c at *
  have hT := h
  obtain ⟨f, rr, a, l, m⟩ := s
  unfold slotC at kB gB nB hB hc ho ⊢
  simp only [] at hv hl hpos hc ho hB
  obtain ⟨va, vc, vx, rfl, hvc, hvx⟩ := hv.form
  refine Cl.enter Try.func11 rfl rfl Try.ntmps11 (by simp) ?_
  refine walk none0 ?_
  generalize H.push (.cells [.int .i64 f, .int .u32 rr.toNat, .bool a, .slice va l.length vc vx, .int .i64 m] 28 true false) = H1 at *
  refine (hc _ kB).mono fun r H2 _ ⟨k2, ea⟩ => ?_
  subst ea
  have K2 := kB.then k2
  cases c with
  | false =>
    refine walk none0 ?_
    exact ⟨L, _, _, rfl, .inl ⟨hcs, rfl, rfl, rfl⟩, ActP.same h K2⟩
  | true =>
    have g2 := (k2.get nB).trans gB
    have n2 : H.next < H2.next := Nat.lt_of_lt_of_le nB k2.next
    refine walk none0 ?_
    refine (free34g_ok (h.kept K2) hn fd).mono fun r H3 _ ⟨ea, n, e, eb, hF⟩ => ?_
    subst ea; subst eb
    by_cases he : e = 0
    · subst he
      obtain ⟨k, rfl, hk⟩ : ∃ k : Nat, n = k ∧ k < L.length := by
        rcases hF with ⟨_, _, h⟩ | ⟨a', k', _, _, ⟨s', h2, _⟩, _, h, _⟩ | ⟨_, _, h⟩
        · omega
        · exact ⟨k', h, qlt h2⟩
        · omega
      have hkI : (k : Int) < L.length := by omega
      refine walk g2 ?_
      refine (ho _ K2).mono fun r H4 _ ⟨k4, u, ea, iu, hu⟩ => ?_
      subst ea
      obtain ⟨ua, uc, ux, rfl, huc, hux⟩ := iu.form
      have g4 := (k4.get n2).trans g2
      have n4 : H.next < H4.next := Nat.lt_of_lt_of_le n2 k4.next
      have K4 := K2.then k4
      have K5 : Keep H (H4.set H.next (.cells [.int .i64 f, .int .u32 rr.toNat, .bool a, .slice ua l.length uc ux, .int .i64 m] 28 true false)) := K4.set _ n4 (by omega)
      have g5 : (H4.set H.next (.cells [.int .i64 f, .int .u32 rr.toNat, .bool a, .slice ua l.length uc ux, .int .i64 m] 28 true false)).get H.next = some (.cells [.int .i64 f, .int .u32 rr.toNat, .bool a, .slice ua l.length uc ux, .int .i64 m] 28 true false) := by simp
      have n5 : H.next < (H4.set H.next (.cells [.int .i64 f, .int .u32 rr.toNat, .bool a, .slice ua l.length uc ux, .int .i64 m] 28 true false)).next := by simp; exact n4
      have i5 : Is (H4.set H.next (.cells [.int .i64 f, .int .u32 rr.toNat, .bool a, .slice ua l.length uc ux, .int .i64 m] 28 true false)) (.slice ua l.length uc ux) l := Sl.set iu _ (fun e => by have := hu _ e; omega)
      obtain ⟨p1, p2, p3, p4⟩ := h.put (q := H.next) (s := ⟨f, rr, a, l, m⟩) (w := .slice ua l.length uc ux) K5 hk (hpos rfl) g5 (Nat.le_refl _) n5 i5 hl (fun z hz => by have := hu z hz; omega)
      have h5 := h.kept K5
      have gp := h5.gp
      have gb := h5.gb
      have hrl : (Q.map rowP).length = L.length := by rw [List.length_map]; exact h.len
      generalize Q.map rowP = R at *
      have hil : k < R.length := by omega
      refine walk g4 ?_
      generalize H4.set H.next (.cells [.int .i64 f, .int .u32 rr.toNat, .bool a, .slice ua l.length uc ux, .int .i64 m] 28 true false) = H5 at *
      refine walk (both gp (both gb (both hk (both hkI hil)))) ?_
      exact ⟨_, _, _, rfl, .inr ⟨hcs, k, 0, hF, .inr ⟨rfl, rfl, rfl, rfl⟩⟩, by simpa using p2, _, by simpa using p1, p3, rows_set fun z hz => by have := hu z hz; omega⟩
    · refine walk he ?_
      exact ⟨L, _, _, rfl, .inr ⟨hcs, n, e, hF, .inl ⟨he, rfl, rfl, rfl⟩⟩, ActP.same h K2⟩
end Go.Abs

/- Chapter 13: Set, Take at any table, walked. -/
namespace Go.Abs
open Go.Proofs
set_option maxRecDepth 100000
set_option linter.unusedVariables false
set_option linter.unusedSimpArgs false

def SetR (L : List SlotT) (fd : Int) (s : SlotT) (L' : List SlotT) (t : SlotT) (is : Bool) (e : Int) : Prop :=
  (canS s = false ∧ L' = L ∧ t = zeroT ∧ is = false ∧ e = 22) ∨ (canS s = true ∧ (fd < 0 ∨ (L.length : Int) ≤ fd) ∧ L' = L ∧ t = zeroT ∧ is = false ∧ e = 9) ∨ (canS s = true ∧ ∃ i : Nat, fd = i ∧ L[i]? = some t ∧ L' = L.set i s ∧ is = decide (0 < t.f) ∧ e = 0)
set_option maxHeartbeats 1000000 in
theorem Set29g_ok {H : Heap} {p b : Nat} {Q : List RowQ} {L : List SlotT} {s : SlotT} {v : AV} (h : TabG H p b Q L) (hn : L.length ≤ 64) (fd : Int) (hv : Is H v s.l) (hl : s.l.length ≤ 50) : Cl Try.prog pr13 29 [.ptr (some (p, 0)), .int .i64 fd, .agg (slotC s v)] H fun r H' => ∃ L' t u is e, r = .tuple [.agg (slotC t u), .bool is, .int .i64 e] ∧ Is H' u t.l ∧ t.l.length ≤ 50 ∧ SetR L fd s L' t is e ∧ ActT H p b Q L' H' := by
  have kB : Keep H ((H.push (.cells (slotC s v) 28 true false)).push (.cells [.int .i64 0, .int .u32 0, .bool false, .slice none 0 0 none, .int .i64 0] 28 true false)) := (Upd.rfl.push _).push _
  have gB : ((H.push (.cells (slotC s v) 28 true false)).push (.cells [.int .i64 0, .int .u32 0, .bool false, .slice none 0 0 none, .int .i64 0] 28 true false)).get H.next = some (.cells (slotC s v) 28 true false) := by simp (disch := omega) [ineg]
  have gT : ((H.push (.cells (slotC s v) 28 true false)).push (.cells [.int .i64 0, .int .u32 0, .bool false, .slice none 0 0 none, .int .i64 0] 28 true false)).get (H.next + 1) = some (.cells [.int .i64 0, .int .u32 0, .bool false, .slice none 0 0 none, .int .i64 0] 28 true false) := by simp (disch := omega) [ineg]
  have nB : H.next + 1 < ((H.push (.cells (slotC s v) 28 true false)).push (.cells [.int .i64 0, .int .u32 0, .bool false, .slice none 0 0 none, .int .i64 0] 28 true false)).next := by simp
  have hc := fun H' (k : Keep H H') => can33g_ok (s := s) (hv.kept k) (by omega)
  have ho := fun H' (k : Keep H H') => own35_ok (s := s) (hv.kept k) (by omega)
  have hpos := fun h => canS_pos (s := s) h
  generalize hcs : canS s = c at *
  obtain ⟨f, rr, a, l, m⟩ := s
  unfold slotC at kB gB gT nB hc ho
  simp only [] at hv hl hpos hc ho
  have hz : zeroT.l.length ≤ 50 := by simp [zeroT]
  obtain ⟨va, vc, vx, rfl, hvc, hvx⟩ := hv.form
  unfold slotC
  simp only []
  refine Cl.enter Try.func29 rfl rfl Try.ntmps29 (by simp) ?_
  refine walk none0 ?_
  generalize (H.push (.cells [.int .i64 f, .int .u32 rr.toNat, .bool a, .slice va l.length vc vx, .int .i64 m] 28 true false)).push (.cells [.int .i64 0, .int .u32 0, .bool false, .slice none 0 0 none, .int .i64 0] 28 true false) = H1 at *
  refine (hc _ kB).mono fun r H2 _ ⟨k2, ea⟩ => ?_
  subst ea
  have K2 := kB.then k2
  have gT2 := (k2.get nB).trans gT
  have n2 : H.next + 1 < H2.next := Nat.lt_of_lt_of_le nB k2.next
  have g2 := (k2.get (by omega)).trans gB
  cases c with
  | false =>
    refine walk gT2 ?_
    exact ⟨L, zeroT, _, _, _, rfl, is_nil _, hz, .inl ⟨hcs, rfl, rfl, rfl, rfl⟩, ActT.same h (K2.set _ n2 (by omega))⟩
  | true =>
    have h2 := h.kept K2
    have gp2 := h2.gp
    by_cases h0 : fd < 0
    · refine walk (both h0 gT2) ?_
      exact ⟨L, zeroT, _, _, _, rfl, is_nil _, hz, .inr (.inl ⟨hcs, .inl h0, rfl, rfl, rfl, rfl⟩), ActT.same h (K2.set _ n2 (by omega))⟩
    · obtain ⟨i, rfl⟩ : ∃ i : Nat, fd = i := ⟨fd.toNat, by omega⟩
      by_cases h1 : i < L.length
      · have hlI : (i : Int) < L.length := by omega
        refine walk (both gp2 (both hlI (both h1 g2))) ?_
        refine (ho _ K2).mono fun r H4 _ ⟨k4, u, ea, iu, hu⟩ => ?_
        subst ea
        obtain ⟨ua, uc, ux, rfl, huc, hux⟩ := iu.form
        have g4 := (k4.get (by omega)).trans g2
        have gT4 := (k4.get n2).trans gT2
        have n4 : H.next + 1 < H4.next := Nat.lt_of_lt_of_le n2 k4.next
        have K4 := K2.then k4
        have K5 : Keep H (H4.set H.next (.cells [.int .i64 f, .int .u32 rr.toNat, .bool a, .slice ua l.length uc ux, .int .i64 m] 28 true false)) := K4.set _ (by omega) (by omega)
        have g5 : (H4.set H.next (.cells [.int .i64 f, .int .u32 rr.toNat, .bool a, .slice ua l.length uc ux, .int .i64 m] 28 true false)).get H.next = some (.cells [.int .i64 f, .int .u32 rr.toNat, .bool a, .slice ua l.length uc ux, .int .i64 m] 28 true false) := by simp
        have gT5 : (H4.set H.next (.cells [.int .i64 f, .int .u32 rr.toNat, .bool a, .slice ua l.length uc ux, .int .i64 m] 28 true false)).get (H.next + 1) = some (.cells [.int .i64 0, .int .u32 0, .bool false, .slice none 0 0 none, .int .i64 0] 28 true false) := by rw [Heap.get_set_ne _ _ (by omega)]; exact gT4
        have n5 : H.next + 1 < (H4.set H.next (.cells [.int .i64 f, .int .u32 rr.toNat, .bool a, .slice ua l.length uc ux, .int .i64 m] 28 true false)).next := by simp; exact n4
        have i5 : Is (H4.set H.next (.cells [.int .i64 f, .int .u32 rr.toNat, .bool a, .slice ua l.length uc ux, .int .i64 m] 28 true false)) (.slice ua l.length uc ux) l := Sl.set iu _ (fun e => by have := hu _ e; omega)
        obtain ⟨p1, p2, p3, p4⟩ := h.put (i := i) (q := H.next) (s := ⟨f, rr, a, l, m⟩) (w := .slice ua l.length uc ux) K5 h1 (hpos rfl) g5 (Nat.le_refl _) (by omega) i5 hl (fun z hz => by have := hu z hz; omega)
        have h5 := h.kept K5
        have gp := h5.gp
        have gb := h5.gb
        have hrl : (Q.map rowP).length = L.length := by rw [List.length_map]; exact h.len
        have hblt := h.lb
        obtain ⟨t, ht⟩ := geti_lt h1
        have htl := h.short ht
        have hno := h5.none_iff ht
        have hnil := h5.nilAt ht
        have hap := h5
        refine walk g4 ?_
        generalize H4.set H.next (.cells [.int .i64 f, .int .u32 rr.toNat, .bool a, .slice ua l.length uc ux, .int .i64 m] 28 true false) = H5 at *
        rcases hno with ⟨e1, rfl, e3⟩ | ⟨f1, q, w, f2, f3, f4, f5, f6, f7⟩
        · have hr : (Q.map rowP)[i]? = some (.ptr none) := by rw [List.getElem?_map, e3]; rfl
          clear hnil hap
          generalize Q.map rowP = R at *
          have hil : i < R.length := by omega
          refine walk (both gp (both gb (both h1 (both hlI (both hil hr))))) ?_
          have gT6 : (H5.set b (.cells (R.set i (.ptr (some (H.next, 0)))) 71 true false)).get (H.next + 1) = some (.cells [.int .i64 0, .int .u32 0, .bool false, .slice none 0 0 none, .int .i64 0] 28 true false) := by rw [Heap.get_set_ne _ _ (by omega)]; exact gT5
          have n6 : H.next + 1 < (H5.set b (.cells (R.set i (.ptr (some (H.next, 0)))) 71 true false)).next := by simp; exact n5
          refine walk gT6 ?_
          exact ⟨_, zeroT, _, _, _, rfl, is_nil _, hz, .inr (.inr ⟨hcs, i, rfl, ht, rfl, rfl, rfl⟩), p2.set _ n6 (by omega), _, p4 (H.next + 1) _ (by omega) (by omega) (fun e => by have := hu _ e; omega) (Upd.rfl.set _ n6 fun _ => rfl), p3⟩
        · have hr : (Q.map rowP)[i]? = some (.ptr (some (q, 0))) := by rw [List.getElem?_map, f2]; rfl
          have hqb : q ≠ b := cells_ne f3 gb (by decide)
          have hqn : q < H.next := h.lt q (.inr ⟨i, w, f2⟩)
          obtain ⟨tf, tr, ta, tl, tm⟩ := t
          unfold slotC at f3
          simp only [] at f1 f3 f5 f6 f7 htl
          have f5' := f5.updq (fp := fun z => z = b) (Upd.rfl.set (.cells ((Q.map rowP).set i (.ptr (some (H.next, 0)))) 71 true false) (by have := K5.next; omega) fun _ => rfl) (fun z hz h0 e => f7 z hz h0 (.inl e))
          have hwx : 0 < tl.length → slBlock w ≠ some (H.next + 1) := fun h0 e => by
            have := (h.row i q w f2)
            obtain ⟨s9, g1, _, _, _, g5, _⟩ := this
            rw [ht] at g1
            injection g1 with g1
            subst g1
            have := g5.lt h0 _ e
            omega
          obtain ⟨wa, wc, wx, rfl, hwc, hwx2⟩ := f5.form
          clear hnil hap
          generalize Q.map rowP = R at *
          have hil : i < R.length := by omega
          refine walk (both gp (both gb (both h1 (both hlI (both hil hr))))) ?_
          have gT6 : (H5.set b (.cells (R.set i (.ptr (some (H.next, 0)))) 71 true false)).get (H.next + 1) = some (.cells [.int .i64 0, .int .u32 0, .bool false, .slice none 0 0 none, .int .i64 0] 28 true false) := by rw [Heap.get_set_ne _ _ (by omega)]; exact gT5
          have n6 : H.next + 1 < (H5.set b (.cells (R.set i (.ptr (some (H.next, 0)))) 71 true false)).next := by simp; exact n5
          have gq6 : (H5.set b (.cells (R.set i (.ptr (some (H.next, 0)))) 71 true false)).get q = some (.cells [.int .i64 tf, .int .u32 tr.toNat, .bool ta, .slice wa tl.length wc wx, .int .i64 tm] 28 true false) := by rw [Heap.get_set_ne _ _ hqb]; exact f3
          refine walk (both gq6 gT6) ?_
          refine ⟨_, ⟨tf, tr, ta, tl, tm⟩, _, _, _, rfl, ?_, htl, .inr (.inr ⟨hcs, i, rfl, ht, rfl, (decide_eq_true f1).symm, rfl⟩), p2.set _ n6 (by omega), _, p4 (H.next + 1) _ (by omega) (by omega) (fun e => by have := hu _ e; omega) (Upd.rfl.set _ n6 fun _ => rfl), p3⟩
          exact f5'.updq (fp := fun z => z = H.next + 1) (Upd.rfl.set _ n6 fun _ => rfl) fun z hz h0 e => hwx h0 (by rw [hz, e])
      · have hlI : ¬ (i : Int) < L.length := by omega
        refine walk (both gp2 (both hlI (both h1 gT2))) ?_
        exact ⟨L, zeroT, _, _, _, rfl, is_nil _, hz, .inr (.inl ⟨hcs, .inr (by omega), rfl, rfl, rfl, rfl⟩), ActT.same h (K2.set _ n2 (by omega))⟩
end Go.Abs
