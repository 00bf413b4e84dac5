/- Texts on this program, joined. -/
import Derived.Test.YtfebefhibgpmjaaDoorOwn07
import Derived.Test.YtfebefhibgpmjaaDoorKit08
import Derived.Test.YtfebefhibgpmjaaDoorKit06
import Derived.Test.YtfebefhibgpmjaaDoorKit04

/- Chapter 02: whitelists shown, walked. -/
namespace Go.Abs
open Go.Proofs
set_option maxRecDepth 100000
set_option maxHeartbeats 4000000
set_option linter.unusedVariables false
set_option linter.unusedSimpArgs false

theorem dec_len {u : Nat} (hu : u < 9223372036854775808) : (Lib.decDigits u).length ≤ 20 := by
  rw [Lib.decDigits_length]
  by_cases h : 1 ≤ u
  · have := Lib.numDigits_eq u h (by omega); split at this <;> omega
  · obtain rfl : u = 0 := by omega
    rw [Lib.nDigits]; simp
theorem num37_ok : ∀ (u : Nat), u < 9223372036854775808 → ∀ H : Heap, Cl Tryd.prog pr02 37 [.int .i64 u] H fun r H' => r = .str (Lib.decDigits u) ∧ H' = H := by
  intro u
  induction u using Nat.strongRecOn with
  | _ u ih =>
    intro hu H
    have h0 : ¬ (u : Int) = -9223372036854775808 := by omega
    have h1 : ¬ (u : Int) < 0 := by omega
    by_cases h10 : u < 10
    · rw [dec_lo h10]
      have h10I : (u : Int) < 10 := by omega
      have hs : ∀ H : Heap, sliceR Tryd.prog 9 (some (.str [48, 49, 50, 51, 52, 53, 54, 55, 56, 57])) (some (some (.int .i64 (u : Int)))) (some (some (.int .i64 ((u : Int) + 1)))) (some none) H = some (.str [UInt8.ofNat (48 + u)], H) := by
        intro H
        rcases (by omega : u = 0 ∨ u = 1 ∨ u = 2 ∨ u = 3 ∨ u = 4 ∨ u = 5 ∨ u = 6 ∨ u = 7 ∨ u = 8 ∨ u = 9) with rfl | rfl | rfl | rfl | rfl | rfl | rfl | rfl | rfl | rfl <;> kernel_rfl
      refine Cl.enter Tryd.func37 rfl rfl Tryd.ntmps37 (by simp) ?_
      refine walk (both h0 (both h1 (both h10I hs))) ?_
      exact ⟨by simp, rfl⟩
    · have h10I : ¬ (u : Int) < 10 := by omega
      have e1 : IntKind.i64.wrap ((u : Int).tdiv 10) = ((u / 10 : Nat) : Int) := by
        rw [Int.tdiv_eq_ediv_of_nonneg (by omega)]; simp [IntKind.wrap, IntKind.signed, IntKind.bits]; omega
      have e2 : IntKind.i64.wrap ((u : Int).tmod 10) = ((u % 10 : Nat) : Int) := by
        rw [Int.tmod_eq_emod_of_nonneg (by omega)]; simp [IntKind.wrap, IntKind.signed, IntKind.bits]; omega
      have hd := dec_hi h10
      have hm := dec_lo (u := u % 10) (by omega)
      rw [← hm] at hd
      have l1 := dec_len (u := u / 10) (by omega)
      have l2 := dec_len (u := u % 10) (by omega)
      refine Cl.enter Tryd.func37 rfl rfl Tryd.ntmps37 (by simp) ?_
      refine walk (both h0 (both h1 (both h10I (both e1 e2)))) ?_
      refine (ih (u / 10) (by omega) (by omega) H).mono fun r H1 _ ⟨ea, eb⟩ => ?_
      subst ea; subst eb
      refine walk (both e1 e2) ?_
      refine (ih (u % 10) (by omega) (by omega) H1).mono fun r H2 _ ⟨ea, eb⟩ => ?_
      subst ea; subst eb
      rw [hd]
      generalize Lib.decDigits (u / 10) = x at *
      generalize Lib.decDigits (u % 10) = y at *
      refine walk (both l1 l2) ?_
      exact ⟨rfl, rfl⟩
theorem take_snoc' {l : List Int} {j : Nat} {x : Int} (h : l[j]? = some x) : l.take (j + 1) = l.take j ++ [x] := by
  rw [List.take_add_one, h]; rfl
/-- A whitelist's text. -/
noncomputable def showW (a : Bool) (l : List Int) : Txt := if canP a l = true then (if a then [97, 108, 108] else if l = [] then [110, 111, 110, 101] else Lib.join ((l.map Int.toNat).map Lib.decDigits) [44]) else []
def decs (l : List Int) : List Txt := (l.map Int.toNat).map Lib.decDigits
theorem decs_len (l : List Int) : (decs l).length = l.length := by simp [decs]
theorem decs_short {l : List Int} (h : ∀ x ∈ l, 0 ≤ x ∧ x < 9223372036854775808) : ∀ t ∈ decs l, t.length ≤ 20 := by
  intro t ht
  simp only [decs, List.mem_map] at ht
  obtain ⟨u, ⟨x, hx, rfl⟩, rfl⟩ := ht
  exact dec_len (by have := h x hx; omega)
theorem decs_take {l : List Int} {i : Nat} {x : Int} (hx : l[i]? = some x) : decs (l.take (i + 1)) = decs (l.take i) ++ [Lib.decDigits x.toNat] := by
  rw [take_snoc' hx]; simp [decs]
theorem joinS36_ok {H : Heap} {v : AV} {l : List Txt} (h : Ss H v l) (hL : l.length ≤ 100000) (hJ : (Lib.join l [44]).length ≤ 1000000) : Cl Tryd.prog pr02 36 [v, .str [44]] H fun r H' => r = .str (Lib.join l [44]) ∧ H' = H := by
  refine Cl.prim (v := .str (Lib.join l [44])) (H' := H) (g := fun args H => match joinAV args H with | some v => some (v, H) | none => none) rfl ?_ ⟨rfl, rfl⟩
  have : joinAV [v, .str [44]] H = some (.str (Lib.join l [44])) := by
    obtain ⟨a, cap, ex, rfl, hc, hex⟩ := h.form
    unfold joinAV
    simp only []
    by_cases h0 : l.length = 0
    · rw [if_pos h0, List.eq_nil_of_length_eq_zero h0]; rfl
    · rw [if_neg h0]
      obtain ⟨b, o, c, t, w, m, rfl, h1, h2, h3, h4⟩ := Sl.at h (by omega)
      simp only [h2]
      rw [if_pos ⟨by omega, hc, hL⟩]
      rw [Nat.mul_one] at h4
      rw [h4]
      unfold strs
      rw [unstr_map]
      simp only []
      rw [if_pos (by omega)]
  simp only [this]
theorem show13_ok {H : Heap} {a : Bool} {v : AV} {l : List Int} (h : Is H v l) (hL : l.length ≤ 100000) (hb : ∀ x ∈ l, x < 9223372036854775808) (hT : Lain S02t H) : Cl Tryd.prog pr02 13 [.agg [.bool a, v]] H fun r H' => Keep H H' ∧ r = .str (showW a l) := by
  obtain ⟨va, vc, vx, rfl, hvc, hvx⟩ := h.form
  have kB : Keep H (H.push (.cells [.bool a, .slice va l.length vc vx] 24 true false)) := Upd.rfl.push _
  have gB : (H.push (.cells [.bool a, .slice va l.length vc vx] 24 true false)).get H.next = some (.cells [.bool a, .slice va l.length vc vx] 24 true false) := by simp
  have nB : H.next < (H.push (.cells [.bool a, .slice va l.length vc vx] 24 true false)).next := by simp
  have hB := h.kept kB
  unfold showW
  refine Cl.enter Tryd.func13 rfl rfl Tryd.ntmps13 (by simp) ?_
  refine walk none0 ?_
  generalize H.push (.cells [.bool a, .slice va l.length vc vx] 24 true false) = H1 at *
  refine (can34_ok hB hL).mono fun r H2 _ ⟨kA, ea⟩ => ?_
  subst ea
  have g2 := (kA.get nB).trans gB
  have k2 := kB.then kA
  have h2 := hB.kept kA
  cases hcp : canP a l with
  | false =>
    rw [if_neg (by simp)]
    refine walk none0 ?_
    exact ⟨k2, rfl⟩
  | true =>
    rw [if_pos rfl]
    cases a with
    | true =>
      refine walk g2 ?_
      exact ⟨k2, rfl⟩
    | false =>
      rw [if_neg (by simp)]
      by_cases h0 : l = []
      · rw [if_pos h0]
        subst h0
        refine walk g2 ?_
        exact ⟨k2, rfl⟩
      · rw [if_neg h0]
        have hl0 : ¬ (l.length : Int) = 0 := fun e => h0 (List.eq_nil_of_length_eq_zero (by omega))
        have hok : okL l ∧ l.length ≤ 32 := by unfold canP at hcp; simpa using hcp
        have hnn : ∀ x ∈ l, 0 ≤ x := fun x hx => by
          obtain ⟨j, hj⟩ := List.mem_iff_getElem?.1 hx
          exact (hok.1 j (List.getElem?_eq_some_iff.1 hj).1 x hj).1
        refine walk (both g2 hl0) ?_
        refine Wq.loop (fun m e H' => ∃ (i : Nat) (w : AV), i ≤ l.length ∧ m = l.length - i ∧ e 3 = w ∧ e 19 = .slice va l.length vc vx ∧ e 20 = .int .i64 l.length ∧ e 21 = .int .i64 i ∧ FreshG H2 H' 9 1 w (decs (l.take i)).length (strs (decs (l.take i)))) l.length ?_ ?_
        · exact ⟨0, .slice none 0 0 none, by omega, by omega, by simp, by simp, by simp, by simp, FreshG.nil Upd.rfl⟩
        · rintro m e H' ⟨i, w, hi, rfl, g3, g19, g20, g21, hF⟩
          obtain ⟨ua, uc, ux, rfl, huc, hux⟩ := hF.own.form
          by_cases hlt : i < l.length
          · obtain ⟨x, hx⟩ := geti_lt hlt
            obtain ⟨b, o, cc, t, w, mk, rfl, _, hb1, hb2, hb3, hb4⟩ := int_at (h2.kept hF.keep) hx
            have hx0 := hnn x (List.mem_of_getElem? hx)
            have hxb := hb x (List.mem_of_getElem? hx)
            obtain ⟨u, rfl⟩ : ∃ u : Nat, x = u := ⟨x.toNat, by omega⟩
            have hdt := decs_take hx
            have hdl : (decs (l.take i)).length ≤ i := by rw [decs_len]; simp; omega
            refine walk (both g3 (both g19 (both g20 (both g21 (both hlt (both hb2 (both hb3 hb4))))))) ?_
            refine (itoa35_ok u (by omega) (lain_kept hT (k2.then hF.keep))).mono fun r H5 _ ⟨ea, kE⟩ => ?_
            subst ea
            have hF5 := hF.then kE
            rw [show ((u : Int)).toNat = u by omega] at hdt
            generalize Lib.decDigits u = D at *
            refine walk g3 ?_
            have kF : Keep H5 (H5.push (.cells [.str D] 9 true false)) := Upd.rfl.push _
            refine Oq.appendL (own := (hF5.own.kept kF)) (new := [.str D]) (m := 1) (by simp (disch := omega) [g3, -getElem?_pos, wrapI64, tdivN, tmodN, ipos, ineg, dpos, dneg, slc_l, slc_h, slc_lh, slc_hm, slc_lhm, slc_0, slcR_some, slcR_none, cutS_ok, cutA_ok, byteAt_ok]; first | done | (repeat' (first | rfl | apply And.intro))) ⟨_, rfl, by simp; first | done | (repeat' (first | rfl | apply And.intro))⟩ rfl (by kernel_rfl) (by kernel_rfl) (by refine ⟨by simp, ?_⟩; simp (disch := omega) [srcCells, cellsAt, g3, -getElem?_pos, wrapI64, tdivN, tmodN, ipos, ineg, dpos, dneg, slc_l, slc_h, slc_lh, slc_hm, slc_lhm, slc_0, slcR_some, slcR_none, cutS_ok, cutA_ok, byteAt_ok]; first | done | rfl) (by simp [g3]) (by simp [g3]) (by omega) (by omega) fun w1 H6 o1 b1 s1 l1 => ?_
            have f1 := (hF5.then kF).app o1 b1 s1
            obtain ⟨wa1, wc1, wx1, rfl, _⟩ := o1.form
            refine walk g21 ?_
            refine Roundq.normal (l.length - (i + 1)) (by omega) ⟨i + 1, .slice wa1 ((decs (l.take i)).length + 1) wc1 wx1, by omega, rfl, by simp, by simp [g19], by simp [g20], by simp, ?_⟩
            rw [hdt, List.length_append, ← strs_app]
            exact f1
          · have hil : i = l.length := by omega
            have hti : l.take i = l := List.take_of_length_le (by omega)
            rw [hti] at hF g3
            have hshort := decs_short (l := l) (fun x hx => ⟨hnn x hx, hb x hx⟩)
            have hjb := join_bound (sep := [44]) hshort
            rw [decs_len] at hjb
            refine walk (both g3 (both g19 (both g20 (both g21 hlt)))) ?_
            refine (joinS36_ok (l := decs l) hF.own.sl (by rw [decs_len]; omega) (by simp at hjb; omega)).mono fun r H5 _ ⟨ea, eb⟩ => ?_
            subst ea; subst eb
            refine walk none0 ?_
            exact ⟨k2.then hF.keep, rfl⟩
end Go.Abs

/- Chapter 02: subsets, walked. -/
namespace Go.Abs
open Go.Proofs
set_option maxRecDepth 100000
set_option linter.unusedVariables false
set_option linter.unusedSimpArgs false

theorem nums32_ok {H : Heap} {v w : AV} {l m : List Int} (h : Is H v l) (h' : Is H w m) (hL : l.length ≤ 100000) : Cl Tryd.prog pr02 32 [v, w] H fun r H' => r = .bool (decide (l = m)) ∧ H' = H := by
  obtain ⟨va, vc, vx, rfl, hvc, hvx⟩ := h.form
  obtain ⟨wa, wc, wx, rfl, hwc, hwx⟩ := h'.form
  refine Cl.enter Tryd.func32 rfl rfl Tryd.ntmps32 (by simp) ?_
  by_cases hlen : l.length = m.length
  · have hlenI : (l.length : Int) = m.length := by omega
    refine walk hlenI ?_
    refine Wq.loop (fun k e H' => ∃ i : Nat, i ≤ l.length ∧ k = l.length - i ∧ H' = H ∧ e 0 = .slice va l.length vc vx ∧ e 1 = .slice wa m.length wc wx ∧ e 5 = .int .i64 i ∧ ∀ j < i, l[j]? = m[j]?) l.length ?_ ?_
    · exact ⟨0, by omega, by omega, rfl, by simp, by simp, by simp, fun j hj => by omega⟩
    · rintro k e H' ⟨i, hi, rfl, rfl, g0, g1, g5, hlo⟩
      by_cases hlt : i < l.length
      · have hlt' : i < m.length := by omega
        obtain ⟨x, hx⟩ := geti_lt hlt
        obtain ⟨y, hy⟩ := geti_lt hlt'
        obtain ⟨b, o, cc, t, w, mk, rfl, _, hb1, hb2, hb3, hb4⟩ := int_at h hx
        obtain ⟨b', o', cc', t', w', mk', rfl, _, hb1', hb2', hb3', hb4'⟩ := int_at h' hy
        by_cases hxy : x = y
        · subst hxy
          refine walk (both g0 (both g1 (both g5 hlt))) ?_
          refine Wq.regionD [0, 1, 2, 3, 4, 5, 6, 7, 8] (by kernel_rfl) ?_
          refine walk (both g0 (both g1 (both g5 (both hlt (both hlt' (both hb2 (both hb3 (both hb4 (both hb2' (both hb3' hb4')))))))))) ?_
          exact Roundq.normal (l.length - (i + 1)) (by omega) ⟨i + 1, by omega, rfl, rfl, by simp [g0], by simp [g1], by simp, lt_step hlo (by rw [hx, hy])⟩
        · have hne : l ≠ m := by rintro rfl; rw [hx] at hy; injection hy with hy; exact hxy hy
          refine walk (both g0 (both g1 (both g5 hlt))) ?_
          refine Wq.regionD [0, 1, 2, 3, 4, 5, 6, 7, 8] (by kernel_rfl) ?_
          refine walk (both g0 (both g1 (both g5 (both hlt (both hlt' (both hb2 (both hb3 (both hb4 (both hb2' (both hb3' (both hb4' hxy))))))))))) ?_
          exact ⟨by rw [decide_eq_false hne], rfl⟩
      · obtain rfl : i = l.length := by omega
        have heq : l = m := by
          apply List.ext_getElem? 
          intro j
          rcases Nat.lt_or_ge j l.length with h1 | h1
          · exact hlo j h1
          · rw [List.getElem?_eq_none h1, List.getElem?_eq_none (by omega)]
        refine walk (both g0 (both g1 g5)) ?_
        exact ⟨by rw [decide_eq_true heq], rfl⟩
  · have hlenI : ¬ (l.length : Int) = m.length := by omega
    have hne : l ≠ m := by rintro rfl; exact hlen rfl
    refine walk hlenI ?_
    exact ⟨by rw [decide_eq_false hne], rfl⟩
theorem same16_ok {H : Heap} {a b : Bool} {v w : AV} {l m : List Int} (h : Is H v l) (h' : Is H w m) (hL : l.length ≤ 100000) : Cl Tryd.prog pr02 16 [.agg [.bool a, v], .agg [.bool b, w]] H fun r H' => r = .bool (decide (a = b ∧ l = m)) ∧ Keep H H' := by
  obtain ⟨va, vc, vx, rfl, hvc, hvx⟩ := h.form
  obtain ⟨wa, wc, wx, rfl, hwc, hwx⟩ := h'.form
  have kB : Keep H ((H.push (.cells [.bool a, .slice va l.length vc vx] 24 true false)).push (.cells [.bool b, .slice wa m.length wc wx] 24 true false)) := (Upd.rfl.push _).push _
  refine Cl.enter Tryd.func16 rfl rfl Tryd.ntmps16 (by simp) ?_
  by_cases hab : a = b
  · subst hab
    refine walk none0 ?_
    refine (nums32_ok (h.kept kB) (h'.kept kB) hL).mono fun r H1 _ ⟨ea, eb⟩ => ?_
    subst ea; subst eb
    refine walk none0 ?_
    exact ⟨by simp, kB⟩
  · refine walk hab ?_
    exact ⟨by simp [hab], kB⟩
theorem clo50_ok {H : Heap} {p : Nat} {a : Bool} {va : Option (Nat × Nat)} {vc : Nat} {vx : Option Nat} {l : List Int} (hg : H.get p = some (.cells [.bool a, .slice va l.length vc vx] 24 true false)) (h : Is H (.slice va l.length vc vx) l) (hL : l.length ≤ 100000) (n : Int) :
    Cl Tryd.prog pr02 50 [.int .i64 n, .ptr (some (p, 0))] H fun r H' => Keep H H' ∧ r = .bool (!(hasP a l n)) := by
  refine Cl.enter Tryd.func50 rfl rfl Tryd.ntmps50 (by simp) ?_
  refine walk hg ?_
  refine (has30_ok h hL n).mono fun r H1 _ ⟨kA, ea⟩ => ?_
  subst ea
  refine walk none0 ?_
  exact ⟨kA, rfl⟩
theorem any58_ok {H : Heap} {p : Nat} {a : Bool} {va : Option (Nat × Nat)} {vc : Nat} {vx : Option Nat} {l m : List Int} (hg : H.get p = some (.cells [.bool a, .slice va l.length vc vx] 24 true false)) (hp : p < H.next) (h : Is H (.slice va l.length vc vx) l) (hL : l.length ≤ 100000)
    {w : AV} (hw : Is H w m) (hM : m.length ≤ 100000) : Cl Tryd.prog pr02 58 [w, .func (.func 50) [] [.ptr (some (p, 0))]] H fun r H' => Keep H H' ∧ ∃ z : Int, r = .int .i64 z ∧ (0 ≤ z ↔ ∃ x ∈ m, hasP a l x = false) := by
  obtain ⟨wa, wc, wx, rfl, hwc, hwx⟩ := hw.form
  refine Cl.enter Tryd.func58 rfl rfl Tryd.ntmps58 (by simp) ?_
  refine walk none0 ?_
  refine Wq.loop (fun k e H' => ∃ i : Nat, i ≤ m.length ∧ k = m.length - i ∧ Keep H H' ∧ e 0 = .slice wa m.length wc wx ∧ e 1 = .func (.func 50) [] [.ptr (some (p, 0))] ∧ e 7 = .int .i64 m.length ∧ e 8 = .int .i64 i ∧ ∀ j < i, ∀ x, m[j]? = some x → hasP a l x = true) m.length ?_ ?_
  · exact ⟨0, by omega, by omega, Upd.rfl, by simp, by simp, by simp, by simp, fun j hj => by omega⟩
  · rintro k e H' ⟨i, hi, rfl, kA, g0, g1, g7, g8, hlo⟩
    by_cases hlt : i < m.length
    · obtain ⟨x, hx⟩ := geti_lt hlt
      obtain ⟨b, o, cc, t, w, mk, rfl, _, hb1, hb2, hb3, hb4⟩ := int_at (hw.kept kA) hx
      refine walk (both g0 (both g1 (both g7 (both g8 (both hlt (both hb2 (both hb3 hb4))))))) ?_
      refine (clo50_ok ((kA.get hp).trans hg) (h.kept kA) hL x).mono fun r H1 _ ⟨kB, ea⟩ => ?_
      subst ea
      cases hh : hasP a l x with
      | false =>
        refine walk g8 ?_
        exact ⟨kA.then kB, _, rfl, ⟨fun _ => ⟨x, List.mem_of_getElem? hx, hh⟩, fun _ => by omega⟩⟩
      | true =>
        refine walk g8 ?_
        exact Roundq.normal (m.length - (i + 1)) (by omega) ⟨i + 1, by omega, rfl, kA.then kB, by simp [g0], by simp [g1], by simp [g7], by simp, lt_step hlo (fun y hy => by rw [hx] at hy; injection hy with hy; subst hy; exact hh)⟩
    · obtain rfl : i = m.length := by omega
      refine walk (both g0 (both g1 (both g7 g8))) ?_
      refine ⟨kA, _, rfl, ⟨fun h => by omega, fun ⟨x, hx, hh⟩ => ?_⟩⟩
      obtain ⟨j, hj⟩ := List.mem_iff_getElem?.1 hx
      rw [hlo j (List.getElem?_eq_some_iff.1 hj).1 x hj] at hh
      cases hh
open Classical in
noncomputable def subP (a : Bool) (l : List Int) (b : Bool) (m : List Int) : Bool := canP a l && canP b m && !(a && !b) && decide (∀ x ∈ l, hasP b m x = true)
theorem subP_any {a b : Bool} {l m : List Int} (h1 : canP a l = true) (h2 : canP b m = true) (h3 : (a || b) = true) : subP a l b m = b := by
  unfold subP
  rw [h1, h2]
  cases b with
  | true =>
    have : ∀ x ∈ l, hasP true m x = true := by
      intro x hx
      unfold hasP
      rw [h2]
      have h0 : 0 ≤ x := by
        obtain ⟨j, hj⟩ := List.mem_iff_getElem?.1 hx
        exact ((canP_ok h1).1 j (List.getElem?_eq_some_iff.1 hj).1 x hj).1
      simp [h0]
    rw [decide_eq_true this]
    simp
  | false =>
    have ha : a = true := by simpa using h3
    subst ha
    simp
theorem subset40_ok {H : Heap} {a b : Bool} {v w : AV} {l m : List Int} (h : Is H v l) (h' : Is H w m) (hL : l.length ≤ 100000) (hM : m.length ≤ 100000) : Cl Tryd.prog pr02 40 [.agg [.bool a, v], .agg [.bool b, w]] H fun r H' => Keep H H' ∧ r = .bool (subP a l b m) := by
  obtain ⟨va, vc, vx, rfl, hvc, hvx⟩ := h.form
  obtain ⟨wa, wc, wx, rfl, hwc, hwx⟩ := h'.form
  have kB : Keep H ((H.push (.cells [.bool a, .slice va l.length vc vx] 24 true false)).push (.cells [.bool b, .slice wa m.length wc wx] 24 true false)) := (Upd.rfl.push _).push _
  have gA : ((H.push (.cells [.bool a, .slice va l.length vc vx] 24 true false)).push (.cells [.bool b, .slice wa m.length wc wx] 24 true false)).get H.next = some (.cells [.bool a, .slice va l.length vc vx] 24 true false) := by simp (disch := omega) [ineg]
  have gB : ((H.push (.cells [.bool a, .slice va l.length vc vx] 24 true false)).push (.cells [.bool b, .slice wa m.length wc wx] 24 true false)).get (H.next + 1) = some (.cells [.bool b, .slice wa m.length wc wx] 24 true false) := by simp (disch := omega) [ineg]
  have nB : H.next + 1 < ((H.push (.cells [.bool a, .slice va l.length vc vx] 24 true false)).push (.cells [.bool b, .slice wa m.length wc wx] 24 true false)).next := by simp
  refine Cl.enter Tryd.func40 rfl rfl Tryd.ntmps40 (by simp) ?_
  refine walk none0 ?_
  generalize (H.push (.cells [.bool a, .slice va l.length vc vx] 24 true false)).push (.cells [.bool b, .slice wa m.length wc wx] 24 true false) = H1 at *
  refine (can34_ok (h.kept kB) hL).mono fun r H2 _ ⟨kA, ea⟩ => ?_
  subst ea
  have gA2 := (kA.get (by omega)).trans gA
  have gB2 := (kA.get nB).trans gB
  have n2 : H.next + 1 < H2.next := Nat.lt_of_lt_of_le nB kA.next
  cases hca : canP a l with
  | false =>
    have e : subP a l b m = false := by unfold subP; rw [hca]; rfl
    rw [e]
    refine walk none0 ?_
    exact ⟨kB.then kA, rfl⟩
  | true =>
    refine walk gB2 ?_
    refine (can34_ok (h'.kept (kB.then kA)) hM).mono fun r H3 _ ⟨kC, ea⟩ => ?_
    subst ea
    have gA3 := (kC.get (by omega)).trans gA2
    have gB3 := (kC.get n2).trans gB2
    have n3 : H.next + 1 < H3.next := Nat.lt_of_lt_of_le n2 kC.next
    have k3 := (kB.then kA).then kC
    cases hcb : canP b m with
    | false =>
      have e : subP a l b m = false := by unfold subP; rw [hca, hcb]; rfl
      rw [e]
      refine walk none0 ?_
      exact ⟨k3, rfl⟩
    | true =>
      cases a with
      | true =>
        rw [subP_any hca hcb rfl]
        refine walk (both gA3 gB3) ?_
        exact ⟨k3, rfl⟩
      | false =>
        cases b with
        | true =>
          rw [subP_any hca hcb rfl]
          refine walk (both gA3 gB3) ?_
          exact ⟨k3, rfl⟩
        | false =>
          refine walk (both gA3 gB3) ?_
          have h49 : Cl Tryd.prog pr02 49 [.slice va l.length vc vx, .func (.func 50) [] [.ptr (some (H.next + 1, 0))]] H3 fun r H' => Keep H3 H' ∧ ∃ z : Int, r = .bool (decide (0 ≤ z)) ∧ (0 ≤ z ↔ ∃ x ∈ l, hasP false m x = false) := by
            refine Cl.enter Tryd.func49 rfl rfl Tryd.ntmps49 (by simp) ?_
            refine walk none0 ?_
            refine (any58_ok gB3 n3 (h'.kept k3) hM (h.kept k3) hL).mono fun r H4 _ ⟨kD, z, ea, hz⟩ => ?_
            subst ea
            refine walk none0 ?_
            exact ⟨kD, z, rfl, hz⟩
          refine h49.mono fun r H4 _ ⟨kD, z, ea, hz⟩ => ?_
          subst ea
          have e : subP false l false m = !(decide (0 ≤ z)) := by
            unfold subP
            rw [hca, hcb]
            by_cases h0 : 0 ≤ z
            · obtain ⟨x, hx, hh⟩ := hz.1 h0
              have : ¬ ∀ x ∈ l, hasP false m x = true := fun hall => by rw [hall x hx] at hh; cases hh
              simp [this, h0]
            · have : ∀ x ∈ l, hasP false m x = true := fun x hx => by
                cases hh : hasP false m x with
                | true => rfl
                | false => exact absurd (hz.2 ⟨x, hx, hh⟩) h0
              rw [decide_eq_true this, decide_eq_false h0]
              rfl
          rw [e]
          refine walk none0 ?_
          exact ⟨k3.then kD, rfl⟩
end Go.Abs

/- Chapter 02: WhiteShows. -/
namespace Go.Abs
open Go.Proofs
set_option maxRecDepth 100000
set_option linter.unusedVariables false
set_option linter.unusedSimpArgs false

theorem refShow14_ok {H : Heap} {a : Bool} {v : AV} {l : List Int} (h : Is H v l) (hL : l.length ≤ 100000) (hb : ∀ x ∈ l, x < 9223372036854775808) : Cl Tryd.prog pr02 14 [.agg [.bool a, v]] H fun r H' => Keep H H' ∧ r = .str (showW a l) := by
  obtain ⟨va, vc, vx, rfl, hvc, hvx⟩ := h.form
  have kB : Keep H (H.push (.cells [.bool a, .slice va l.length vc vx] 24 true false)) := Upd.rfl.push _
  have gB : (H.push (.cells [.bool a, .slice va l.length vc vx] 24 true false)).get H.next = some (.cells [.bool a, .slice va l.length vc vx] 24 true false) := by simp
  have nB : H.next < (H.push (.cells [.bool a, .slice va l.length vc vx] 24 true false)).next := by simp
  have hB := h.kept kB
  unfold showW
  refine Cl.enter Tryd.func14 rfl rfl Tryd.ntmps14 (by simp) ?_
  refine walk none0 ?_
  generalize H.push (.cells [.bool a, .slice va l.length vc vx] 24 true false) = H1 at *
  refine (refCan15_ok hB hL).mono fun r H2 _ ⟨kA, ea⟩ => ?_
  subst ea
  have g2 := (kA.get nB).trans gB
  have k2 := kB.then kA
  have h2 := hB.kept kA
  cases hcp : canP a l with
  | false =>
    rw [if_neg (by simp)]
    refine walk none0 ?_
    exact ⟨k2, rfl⟩
  | true =>
    rw [if_pos rfl]
    cases a with
    | true =>
      refine walk g2 ?_
      exact ⟨k2, rfl⟩
    | false =>
      rw [if_neg (by simp)]
      have hok : okL l ∧ l.length ≤ 32 := by unfold canP at hcp; simpa using hcp
      have hnn : ∀ x ∈ l, 0 ≤ x := fun x hx => by
        obtain ⟨j, hj⟩ := List.mem_iff_getElem?.1 hx
        exact (hok.1 j (List.getElem?_eq_some_iff.1 hj).1 x hj).1
      have hshort := decs_short (l := l) (fun x hx => ⟨hnn x hx, hb x hx⟩)
      refine walk g2 ?_
      refine Wq.loop (fun m e H' => ∃ (i : Nat) (s : Txt), i ≤ l.length ∧ m = l.length - i ∧ H' = H2 ∧ e 1 = .ptr (some (H.next, 0)) ∧ e 3 = .str s ∧ e 4 = .int .i64 i ∧ s = Lib.join (decs (l.take i)) [44] ∧ s.length ≤ 1000) l.length ?_ ?_
      · exact ⟨0, [], by omega, by omega, rfl, by simp, by simp, by simp, by simp [decs, Lib.join], by simp⟩
      · rintro m e H' ⟨i, s, hi, rfl, rfl, g1, g3, g4, hs, hsl⟩
        by_cases hlt : i < l.length
        · obtain ⟨x, hx⟩ := geti_lt hlt
          obtain ⟨b, o, cc, t, w, mk, rfl, _, hb1, hb2, hb3, hb4⟩ := int_at h2 hx
          have hx0 := hnn x (List.mem_of_getElem? hx)
          have hxb := hb x (List.mem_of_getElem? hx)
          obtain ⟨u, rfl⟩ : ∃ u : Nat, x = u := ⟨x.toNat, by omega⟩
          have hdt := decs_take hx
          rw [show ((u : Int)).toNat = u by omega] at hdt
          have hDl := dec_len (u := u) (by omega)
          have hjb := join_bound (sep := [44]) (k := 20) (l := decs (l.take (i + 1))) (fun t ht => hshort t (by
            have : decs (l.take (i + 1)) = (decs l).take (i + 1) := by simp [decs]
            rw [this] at ht; exact List.mem_of_mem_take ht))
          rw [decs_len, List.length_take, List.length_singleton] at hjb
          by_cases h0 : i = 0
          · subst h0
            have hs0 : s = [] := by rw [hs]; simp [decs, Lib.join]
            subst hs0
            rw [Nat.add_zero] at hb3 hb4
            refine walk (both g1 (both g3 (both g4 (both hlt (both hb2 (both hb3 (both hb4 g2))))))) ?_
            refine (num37_ok u (by omega) H').mono fun r H5 _ ⟨ea, eb⟩ => ?_
            subst ea; subst eb
            generalize hD : Lib.decDigits u = D at *
            refine walk (both g3 (both g4 hDl)) ?_
            refine Roundq.normal (l.length - (0 + 1)) (by omega) ⟨0 + 1, D, by omega, rfl, rfl, by simp [g1], by simp, by simp, ?_, by omega⟩
            rw [hdt]; simp [decs, Lib.join, List.intercalate, List.intersperse]
          · have h0I : 0 < (i : Int) := by omega
            have hne : decs (l.take i) ≠ [] := by
              intro e
              have := congrArg List.length e
              rw [decs_len, List.length_take, List.length_nil] at this
              omega
            have hjs := join_snoc (sep := [44]) (l := decs (l.take i)) (x := Lib.decDigits u) hne
            rw [← hdt, ← hs] at hjs
            have hsb : (s ++ ([44] ++ Lib.decDigits u)).length ≤ 1000 := by rw [← hjs]; omega
            refine walk (both g1 (both g3 (both g4 (both hlt (both hb2 (both hb3 (both hb4 (both g2 (both h0I hsl))))))))) ?_
            refine (num37_ok u (by omega) H').mono fun r H5 _ ⟨ea, eb⟩ => ?_
            subst ea; subst eb
            generalize hD : Lib.decDigits u = D at *
            have hs44 : (s ++ [44]).length ≤ 1001 := by simp; omega
            obtain ⟨s4, hs4⟩ : ∃ s4, s4 = s ++ [44] := ⟨_, rfl⟩
            rw [← hs4] at hs44 ⊢
            refine walk (both g4 (both hDl hs44)) ?_
            refine Roundq.normal (l.length - (i + 1)) (by omega) ⟨i + 1, s4 ++ D, by omega, rfl, rfl, by simp [g1], by simp, by simp, ?_, ?_⟩
            · rw [hjs, hs4, List.append_assoc]
            · rw [hs4, List.append_assoc]; exact hsb
        · have hil : i = l.length := by omega
          have hti : l.take i = l := List.take_of_length_le (by omega)
          rw [hti] at hs
          by_cases hl0 : l = []
          · have hs0 : s = [] := by rw [hs, hl0]; simp [decs, Lib.join]
            rw [if_pos hl0]
            subst hs0
            refine walk (both g1 (both g3 (both g4 (both hlt g2)))) ?_
            exact ⟨k2, rfl⟩
          · have hsn : s ≠ [] := by
              rw [hs]
              obtain ⟨b, r, e, _⟩ := joinD_head (l := l.map Int.toNat) (by simpa using hl0)
              unfold decs
              rw [e]; simp
            rw [if_neg hl0]
            refine walk (both g1 (both g3 (both g4 (both hlt (both g2 hsn))))) ?_
            exact ⟨k2, by rw [hs]; rfl⟩
theorem showW_inj {a b : Bool} {l m : List Int} (h1 : canP a l = true) (h2 : canP b m = true) : showW a l = showW b m ↔ (a = b ∧ l = m) := by
  constructor
  · intro h
    unfold showW at h
    rw [if_pos h1, if_pos h2] at h
    have n1 : ∀ x ∈ l, 0 ≤ x := fun x hx => by
      obtain ⟨j, hj⟩ := List.mem_iff_getElem?.1 hx
      exact ((canP_ok h1).1 j (List.getElem?_eq_some_iff.1 hj).1 x hj).1
    have n2 : ∀ x ∈ m, 0 ≤ x := fun x hx => by
      obtain ⟨j, hj⟩ := List.mem_iff_getElem?.1 hx
      exact ((canP_ok h2).1 j (List.getElem?_eq_some_iff.1 hj).1 x hj).1
    have ha : ∀ {l : List Int}, canP true l = true → l = [] := fun h => by unfold canP at h; simpa using h
    have hd : ∀ {l : List Int}, l ≠ [] → ∀ {t : Txt}, (t = [97, 108, 108] ∨ t = [110, 111, 110, 101]) → Lib.join ((l.map Int.toNat).map Lib.decDigits) [44] ≠ t := by
      intro l hl t ht e
      obtain ⟨b, r, e2, hb1, hb2⟩ := joinD_head (l := l.map Int.toNat) (by simpa using hl)
      rw [e2] at e
      rcases ht with rfl | rfl
      · injection e with e _; subst e; simp at hb2
      · injection e with e _; subst e; simp at hb2
    cases a with
    | true =>
      obtain rfl := ha h1
      cases b with
      | true => obtain rfl := ha h2; exact ⟨rfl, rfl⟩
      | false =>
        simp only [if_true, Bool.false_eq_true, if_false] at h
        split at h
        · cases h
        · rename_i hm; exact absurd h.symm (hd hm (.inl rfl))
    | false =>
      cases b with
      | true =>
        simp only [if_true, Bool.false_eq_true, if_false] at h
        split at h
        · cases h
        · rename_i hm; exact absurd h (hd hm (.inl rfl))
      | false =>
        simp only [Bool.false_eq_true, if_false] at h
        refine ⟨rfl, ?_⟩
        split at h
        · rename_i hl
          split at h
          · rename_i hm; rw [hl, hm]
          · rename_i hm; exact absurd h.symm (hd hm (.inr rfl))
        · rename_i hl
          split at h
          · rename_i hm; exact absurd h (hd hl (.inr rfl))
          · rename_i hm
            have e := joinD_inj (by simpa using hl) (by simpa using hm) h
            have back : ∀ {l : List Int}, (∀ x ∈ l, 0 ≤ x) → l = (l.map Int.toNat).map (fun n : Nat => (n : Int)) := by
              intro l
              induction l with
              | nil => intro _; rfl
              | cons x l ih =>
                intro hx
                rw [List.map_cons, List.map_cons, ← ih (fun y hy => hx y (List.mem_cons_of_mem _ hy))]
                have := hx x (by simp)
                congr 1
                omega
            rw [back n1, back n2, e]
  · rintro ⟨rfl, rfl⟩; rfl
end Go.Abs

/- Chapter 02: WhiteShows. -/
namespace Go.Abs
open Go.Proofs
set_option maxRecDepth 100000
set_option linter.unusedVariables false
set_option linter.unusedSimpArgs false

theorem whiteShows_main {H : Heap} {a b : Bool} {v w : AV} {l m : List Int} (h : Is H v l) (h' : Is H w m) (hbl : ∀ x ∈ l, -9223372036854775808 ≤ x ∧ x < 9223372036854775808) (hbm : ∀ x ∈ m, -9223372036854775808 ≤ x ∧ x < 9223372036854775808) (hT : Lain S02t H) : Cl Tryd.prog pr02 4 [.agg [.bool a, v], .agg [.bool b, w]] H fun r _ => r = .bool true := by
  obtain ⟨va, vc, vx, rfl, hvc, hvx⟩ := h.form
  obtain ⟨wa, wc, wx, rfl, hwc, hwx⟩ := h'.form
  have kB : Keep H ((H.push (.cells [.bool a, .slice va l.length vc vx] 24 true false)).push (.cells [.bool b, .slice wa m.length wc wx] 24 true false)) := (Upd.rfl.push _).push _
  have gA : ((H.push (.cells [.bool a, .slice va l.length vc vx] 24 true false)).push (.cells [.bool b, .slice wa m.length wc wx] 24 true false)).get H.next = some (.cells [.bool a, .slice va l.length vc vx] 24 true false) := by simp (disch := omega) [ineg]
  have gB : ((H.push (.cells [.bool a, .slice va l.length vc vx] 24 true false)).push (.cells [.bool b, .slice wa m.length wc wx] 24 true false)).get (H.next + 1) = some (.cells [.bool b, .slice wa m.length wc wx] 24 true false) := by simp (disch := omega) [ineg]
  have nB : H.next + 1 < ((H.push (.cells [.bool a, .slice va l.length vc vx] 24 true false)).push (.cells [.bool b, .slice wa m.length wc wx] 24 true false)).next := by simp
  refine Cl.enter Tryd.func4 rfl rfl Tryd.ntmps4 (by simp) ?_
  refine walk none0 ?_
  generalize (H.push (.cells [.bool a, .slice va l.length vc vx] 24 true false)).push (.cells [.bool b, .slice wa m.length wc wx] 24 true false) = H1 at *
  refine Wq.regionM [(0, 0), (1, 0), (2, 2), (3, 0), (4, 0), (5, 0)] (by kernel_rfl) ?_
  refine mwalk gA ?_
  refine (short9_ok (h.kept kB)).mono fun r H2 _ ⟨u, ea, f1⟩ => ?_
  subst ea
  have gA2 := (f1.keep.get (by omega)).trans gA
  have gB2 := (f1.keep.get nB).trans gB
  have n2 : H.next + 1 < H2.next := Nat.lt_of_lt_of_le nB f1.keep.next
  have hl2 : (l.take 200).length ≤ 200 := by simp; omega
  have hm2 : (m.take 200).length ≤ 200 := by simp; omega
  have hlt := take_twice l
  have hmt := take_twice m
  have hbL : ∀ x ∈ l.take 200, x < 9223372036854775808 := fun x hx => (hbl x (List.mem_of_mem_take hx)).2
  have hbM : ∀ x ∈ m.take 200, x < 9223372036854775808 := fun x hx => (hbm x (List.mem_of_mem_take hx)).2
  refine mwalk (both gA (both gB (both gA2 gB2))) ?_
  refine (short9_ok (h'.kept (kB.then f1.keep))).mono fun r H3 _ ⟨u', ea, f2⟩ => ?_
  subst ea
  generalize l.take 200 = L at *
  generalize m.take 200 = M at *
  have hnew1 := f1.new
  have hnew2 := f2.new
  have i1 : Is H2 u L := f1.is
  have i2 : Is H3 u' M := f2.is
  have i1' := i1.kept f2.keep
  obtain ⟨ua, uc, ux, rfl, huc, hux⟩ := i1.form
  obtain ⟨ya, yc, yx, rfl, hyc, hyx⟩ := i2.form
  have gA3 := (f2.keep.get (by omega)).trans gA2
  have gB3 := (f2.keep.get n2).trans gB2
  have n3 : H.next + 1 < H3.next := Nat.lt_of_lt_of_le n2 f2.keep.next
  have kH3 := (kB.then f1.keep).then f2.keep
  refine mwalk (both gA (both gB (both gA2 (both gB2 (both gA3 gB3))))) ?_
  refine walk none0 ?_
  obtain ⟨H4, hH4⟩ : ∃ H4, H4 = (H3.set H.next (.cells [.bool a, .slice ua L.length uc ux] 24 true false)).set (H.next + 1) (.cells [.bool b, .slice ya M.length yc yx] 24 true false) := ⟨_, rfl⟩
  have gA4 : H4.get H.next = some (.cells [.bool a, .slice ua L.length uc ux] 24 true false) := by rw [hH4, Heap.get_set_ne _ _ (by omega)]; exact Heap.get_set_same _ _ _
  have gB4 : H4.get (H.next + 1) = some (.cells [.bool b, .slice ya M.length yc yx] 24 true false) := by rw [hH4]; exact Heap.get_set_same _ _ _
  have n4 : H.next + 1 < H4.next := by rw [hH4]; simpa using n3
  have j1 : Is H4 (.slice ua L.length uc ux) L := by rw [hH4]; exact Sl.set (Sl.set i1' _ (fun e => by have := hnew1 _ e; omega)) _ (fun e => by have := hnew1 _ e; omega)
  have j2 : Is H4 (.slice ya M.length yc yx) M := by rw [hH4]; exact Sl.set (Sl.set i2 _ (fun e => by have := hnew2 _ e; omega)) _ (fun e => by have := hnew2 _ e; omega)
  have kH4 : Keep H H4 := by rw [hH4]; exact (kH3.set _ (by omega) (by omega)).set _ (by simp; omega) (by omega)
  rw [← hH4]
  have hLs : L.length ≤ 100000 := by omega
  have hMs : M.length ≤ 100000 := by omega
  have sA := short9_ok (a := a) j1
  rw [hlt] at sA
  refine Wq.regionM [(0, 0), (1, 0), (2, 0), (3, 3), (4, 0), (5, 0), (6, 0), (7, 0)] (by kernel_rfl) ?_
  refine mwalk gA4 ?_
  refine sA.mono fun r H5 _ ⟨x1, ea, f5⟩ => ?_
  subst ea
  have gA5 := (f5.keep.get (by omega)).trans gA4
  have gB5 := (f5.keep.get n4).trans gB4
  have n5 : H.next + 1 < H5.next := Nat.lt_of_lt_of_le n4 f5.keep.next
  have kH5 := kH4.then f5.keep
  refine mwalk none0 ?_
  refine (show13_ok (a := a) f5.is hLs hbL (lain_kept hT kH5)).mono fun r H6 _ ⟨k6, ea⟩ => ?_
  subst ea
  have gA6 := (k6.get (by omega)).trans gA5
  have gB6 := (k6.get n5).trans gB5
  have n6 : H.next + 1 < H6.next := Nat.lt_of_lt_of_le n5 k6.next
  have k46 := f5.keep.then k6
  have sB := short9_ok (a := b) (j2.kept k46)
  rw [hmt] at sB
  refine mwalk (both gB4 (both gB5 gB6)) ?_
  refine sB.mono fun r H7 _ ⟨x2, ea, f7⟩ => ?_
  subst ea
  have gA7 := (f7.keep.get (by omega)).trans gA6
  have gB7 := (f7.keep.get n6).trans gB6
  have n7 : H.next + 1 < H7.next := Nat.lt_of_lt_of_le n6 f7.keep.next
  have k47 := k46.then f7.keep
  refine mwalk none0 ?_
  refine (show13_ok (a := b) f7.is hMs hbM (lain_kept hT (kH4.then k47))).mono fun r H8 _ ⟨k8, ea⟩ => ?_
  subst ea
  have gA8 := (k8.get (by omega)).trans gA7
  have gB8 := (k8.get n7).trans gB7
  have n8 : H.next + 1 < H8.next := Nat.lt_of_lt_of_le n7 k8.next
  have k48 := k47.then k8
  refine mwalk none0 ?_
  refine walk gA8 ?_
  refine (refShow14_ok (a := a) (j1.kept k48) hLs hbL).mono fun r H9 _ ⟨k9, ea⟩ => ?_
  subst ea
  have gA9 := (k9.get (by omega)).trans gA8
  have gB9 := (k9.get n8).trans gB8
  have n9 : H.next + 1 < H9.next := Nat.lt_of_lt_of_le n8 k9.next
  have k49 := k48.then k9
  have hinj := @showW_inj a b L M
  generalize showW a L = s at *
  generalize showW b M = t at *
  refine walk gA9 ?_
  refine (refCan15_ok (a := a) (j1.kept k49) hLs).mono fun r H10 _ ⟨k10, ea⟩ => ?_
  subst ea
  have gA10 := (k10.get (by omega)).trans gA9
  have gB10 := (k10.get n9).trans gB9
  have n10 : H.next + 1 < H10.next := Nat.lt_of_lt_of_le n9 k10.next
  have k410 := k49.then k10
  cases hca : canP a L with
  | false =>
    refine walk none0 ?_
    refine (lives_ok _).mono fun r H14 _ ⟨ea, eb⟩ => ?_
    subst ea; subst eb
    refine walk none0 ?_
    rfl
  | true =>
    refine walk gB10 ?_
    refine (refCan15_ok (a := b) (j2.kept k410) hMs).mono fun r H11 _ ⟨k11, ea⟩ => ?_
    subst ea
    have gA11 := (k11.get (by omega)).trans gA10
    have gB11 := (k11.get n10).trans gB10
    have k411 := k410.then k11
    cases hcb : canP b M with
    | false =>
      refine walk none0 ?_
      refine (lives_ok _).mono fun r H14 _ ⟨ea, eb⟩ => ?_
      subst ea; subst eb
      refine walk none0 ?_
      rfl
    | true =>
      have hinj := hinj hca hcb
      refine walk (both gA11 gB11) ?_
      refine (same16_ok (a := a) (b := b) (j1.kept k411) (j2.kept k411) hLs).mono fun r H12 _ ⟨ea, k12⟩ => ?_
      subst ea
      by_cases hst : a = b ∧ L = M
      · have hst' := hinj.2 hst
        rw [decide_eq_true hst]
        subst hst'
        refine walk none0 ?_
        refine (lives_ok _).mono fun r H14 _ ⟨ea, eb⟩ => ?_
        subst ea; subst eb
        refine walk none0 ?_
        rfl
      · have hst' : ¬ s = t := fun e => hst (hinj.1 e)
        rw [decide_eq_false hst]
        refine walk hst' ?_
        refine (lives_ok _).mono fun r H14 _ ⟨ea, eb⟩ => ?_
        subst ea; subst eb
        refine walk none0 ?_
        rfl
end Go.Abs

/- Chapter 02: lists that come in. -/
namespace Go.Abs
open Go.Proofs
set_option maxRecDepth 100000
set_option linter.unusedVariables false
set_option linter.unusedSimpArgs false

theorem nums_of : ∀ {n : Nat} {c : List AV}, c.length = n → (∀ i, i < n → ∃ x, (c.drop i).take 1 = [.int .i64 x] ∧ -9223372036854775808 ≤ x ∧ x < 9223372036854775808) → ∃ l : List Int, l.length = n ∧ c = ints l ∧ ∀ x ∈ l, -9223372036854775808 ≤ x ∧ x < 9223372036854775808
  | 0, c, hl, _ => ⟨[], rfl, List.eq_nil_of_length_eq_zero hl, by simp⟩
  | n + 1, [], hl, _ => by simp at hl
  | n + 1, a :: c, hl, h => by
    obtain ⟨x, hx, hb⟩ := h 0 (by omega)
    simp at hx
    obtain ⟨l, hl', e, hbl⟩ := nums_of (n := n) (c := c) (by simpa using hl) fun i hi => by
      obtain ⟨y, hy, hb⟩ := h (i + 1) (by omega)
      exact ⟨y, by simpa using hy, hb⟩
    refine ⟨x :: l, by simp [hl'], by rw [hx, e]; rfl, fun y hy => ?_⟩
    rcases List.mem_cons.1 hy with rfl | hy
    · exact hb
    · exact hbl y hy
theorem ints_of {H : Heap} {n : Nat} {v : AV} (h : Pic Tryd.prog H (n + 2) 22 [v]) : ∃ l : List Int, Is H v l ∧ ∀ x ∈ l, -9223372036854775808 ≤ x ∧ x < 9223372036854775808 := by
  obtain ⟨len, c, h1, h2, h3, h4⟩ := pic_slice (s := 1) Tryd.underlying22 (by kernel_rfl) h
  obtain ⟨l, hl, e, hb⟩ := nums_of (n := len) (c := c) (by have := h1.len; omega) fun i hi => by
    have := h4 i hi
    rw [Nat.mul_one] at this
    obtain ⟨x, hx, hw⟩ := pic_int Tryd.underlying3 this
    refine ⟨x, hx, ?_⟩
    simp [Lit.wf, IntKind.min, IntKind.max, IntKind.signed, IntKind.bits] at hw
    omega
  subst e
  exact ⟨l, by unfold Is; rw [hl]; exact h1, hb⟩
theorem white_of {H : Heap} {n : Nat} {a : AV} (h : PicV Tryd.prog H (n + 3) 24 a) : ∃ x v l, a = .agg [.bool x, v] ∧ Is H v l ∧ ∀ x ∈ l, -9223372036854775808 ≤ x ∧ x < 9223372036854775808 := by
  unfold PicV at h
  simp only [Tryd.underlying24] at h
  obtain ⟨cs, rfl, h⟩ := h
  unfold Pic at h
  simp only [Tryd.underlying24] at h
  obtain ⟨hl, hf⟩ := h
  have c4 : Tryd.prog.cellsOf 4 = 1 := by kernel_rfl
  have c22 : Tryd.prog.cellsOf 22 = 1 := by kernel_rfl
  have c24 : Tryd.prog.cellsOf 24 = 2 := by kernel_rfl
  rw [c24] at hl
  match cs, hl with
  | [a, c], _ =>
    simp [c4, c22] at hf
    obtain ⟨h0, h2⟩ := hf
    obtain ⟨x, e0⟩ := pic_bool Tryd.underlying4 h0
    obtain ⟨l, hl, hb⟩ := ints_of h2
    simp at e0
    subst e0
    exact ⟨x, c, l, rfl, hl, hb⟩
end Go.Abs

/- WhiteShows: the row and its card. -/
namespace Go.Proofs.YtfebefhibgpmjaaDoor
open Go.ChangeShapes Go.WideShapes Go.ChangeAt Go.RowKit Go.Abs
set_option linter.unusedVariables false
set_option maxRecDepth 100000

theorem whiteShowsMain (H : Heap) (xs : List AV) (hG : Tryd.prog.globals.size ≤ H.next) (hw : Wf H) (hL : Lain S02t H) (h : PicAll Tryd.prog H 4 [24, 24] xs) : CallsA Tryd.prog pr02 4 xs H fun v _ => v = .bool true := by
  obtain ⟨a0, r0, rfl, h0, a1, r1, rfl, h1, hend⟩ := h
  obtain rfl : r1 = [] := hend
  refine Cl.callsA primsRl hw ?_
  obtain ⟨x0, v0, l0, rfl, s0, b0⟩ := white_of (n := 1) h0
  obtain ⟨x1, v1, l1, rfl, s1, b1⟩ := white_of (n := 1) h1
  exact whiteShows_main s0 s1 b0 b1 hL

theorem whiteShowsLifted (os : Os) (started : os.Started) (H : Type) (enc : TypeId × Value → H) :
    ReturnsInHanded {} Tryd.checked os 4 .any (fun w args => (Rows.whiteShowsSpec.pre enc Tryd.prog Tryd.f4 [] false w args ∧ laidMetH Tryd.prog Rows.whiteShowsRow.laid w) ∧ sizedMet enc Tryd.prog Tryd.f4 (OpenSpec.ofChange Rows.whiteShowsSpec) false w args)
      (Rows.whiteShowsSpec.post enc Tryd.prog Tryd.f4 false true false false) := by
  refine returnsInHanded_of_change_and (C := Tryd.checked) (X := fun w _ => laidMetH Tryd.prog Rows.whiteShowsRow.laid w) (fun _ _ _ hh h => h.of_heap hh) own started (by kernel_rfl) Tryd.func4
    (ChangeSpec.witness_shaped (enc := enc) (C := Tryd.checked) (os := os) (X := fun w _ => laidMetH Tryd.prog Rows.whiteShowsRow.laid w) false (World.laidAll Tryd.prog os Rows.whiteShowsRow.laid) #[.agg #[.bool false, .slice none 0 0], .agg #[.bool false, .slice none 0 0]] 8 (World.laidAll_os _ _ _)
      (World.shaped_of_ZipB (by kernel_rfl) (by kernel_rfl)) (by kernel_rfl) (by kernel_rfl) (by kernel_rfl)
      (by rw [MakeChecks.laidMetH_plain _ _ _ (by kernel_rfl)]; exact laidMet_laidAll _ (by kernel_rfl) (by kernel_rfl))) ?_
  intro W base args ds gs before hval hW hcnd _ hL _
  rw [MakeChecks.laidMetH_plain _ _ _ (by kernel_rfl)] at hL
  have ep : Tryd.f4.params.toList = [24, 24] := by kernel_rfl
  refine law_post laidOut rfl (fun ds h => ?_) (tb := 4) (by kernel_rfl) Tryd.underlying4 ?_ hW (fun p hA => ?_)
  · rw [ep] at h
    match ds, h with
    | [a0, a1], _ => rfl
  · rw [ep]
    intro t ht
    simp at ht
    subst ht; exact ⟨by kernel_rfl, of_decide_eq_true (by kernel_rfl)⟩
  · refine law_calls_laid primsOk mixed plainN Tryd.func4 rfl (S := S02t) (tabs_of (Rows.whiteShowsRow.laid) W hL (by simp [Rows.whiteShowsRow])) tabs_get (n := 4) (base := base) (ts := Tryd.f4.params.toList) ?_ ?_ ?_ hA
    · rw [ep]
      intro t ht
      simp at ht
      subst ht; kernel_rfl
    · rw [ep]
      exact whiteShowsMain
    · intro j t v h1 h2
      exact hval j t v (by simpa using h1) (by simpa using h2)

theorem whiteShowsRow : Rows.WhiteShowsSaid :=
  OpenClaim.holds_of_wide 4 Tryd.f4 rfl rfl rfl rfl rfl rfl rfl ⟨rfl, rfl, rfl, rfl, rfl⟩ rfl rfl rfl rfl rfl (by kernel_rfl) Tryd.func4 (by kernel_rfl)
    (of_decide_eq_true (by kernel_rfl)) (by unfold Func.isWrapper; first | (rw [if_pos (by decide +kernel)]; kernel_rfl) | (rw [if_neg (by decide +kernel)]; exact ⟨rfl, rfl⟩))
    (fun os started H enc _ => whiteShowsLifted os started H enc)
theorem whiteShows : Rows.WhiteShowsCardSaid :=
  Claim7.holds_tied_plain_at .later [] [.data, .data, .data] true (true, "3f219ea87593acb0550e6c6be303ee0f0b10e7d34b0a5fd299bd936d5766cc94") false whiteShowsRow (fun _ h => by cases h) (by kernel_rfl) (fun _ h => by cases h) whiteShows_row_tie rfl ⟨rfl, rfl⟩ (by kernel_rfl) rfl
    (fun f fn hf hfn => by
      obtain rfl : f = 4 := Option.some.inj ((show Tryd.prog.funcNamed Rows.whiteShowsRow.func = some 4 by kernel_rfl).symm.trans hf) |>.symm
      obtain rfl : fn = Tryd.f4 := (Option.some.inj (Tryd.func4.symm.trans hfn)).symm
      exact ⟨by kernel_rfl, fun j t ht => by
        rw [Tryd.params4] at ht
        have hm : t ∈ [24, 24] := by simpa using Array.mem_of_getElem? ht
        have hall : ([24, 24].all fun u => !Tryd.prog.wantsStandIn u) = true := by kernel_rfl
        exact (show Tryd.prog.wantsStandIn t = false by simpa using List.all_eq_true.1 hall t hm)⟩)
    (by kernel_rfl)
-- #print axioms whiteShows
end Go.Proofs.YtfebefhibgpmjaaDoor
