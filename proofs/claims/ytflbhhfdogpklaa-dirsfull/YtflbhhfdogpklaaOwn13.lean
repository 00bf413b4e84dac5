/- Texts on this program, joined. -/
import Derived.Test.YtflbhhfdogpklaaOwn11
import Derived.Test.YtflbhhfdogpklaaKit12
import Derived.Test.YtflbhhfdogpklaaKit04
import Derived.Test.YtflbhhfdogpklaaOwn07
import Derived.Test.YtflbhhfdogpklaaRows
import Derived.WalkKit
import Derived.ProofKit
import Derived.OpenShut
import Derived.ShutString
import Derived.ChangeOld
import Derived.Below

/- Chapter 05: names told in order, walked. -/
namespace Go.Abs
open Go.Proofs
set_option maxRecDepth 100000
set_option linter.unusedVariables false
set_option linter.unusedSimpArgs false

theorem names_ok {H : Heap} {v w : AV} {l m : List Txt} (h : Ss H v l) (h' : Ss H w m) (hL : l.length ≤ 100000) : Cl Try.prog pr05 13 [v, w] H fun r H' => r = .bool (decide (l = m)) ∧ H' = H := by
  obtain ⟨a, cap, ex, rfl, hc, hex⟩ := h.form
  obtain ⟨a', cap', ex', rfl, hc', hex'⟩ := h'.form
  refine Cl.enter Try.func13 rfl rfl Try.ntmps13 (by simp) ?_
  by_cases hl : l.length = m.length
  · refine walk hl ?_
    refine Wq.loop (fun k e H' => ∃ i : Nat, i ≤ l.length ∧ k = l.length - i ∧ H' = H ∧ e 0 = .slice a l.length cap ex ∧ e 1 = .slice a' m.length cap' ex' ∧ e 5 = .int .i64 i ∧ l.take i = m.take i) l.length ?_ ?_
    · exact ⟨0, by omega, by omega, rfl, by simp [hl], by simp, by simp, by simp⟩
    · rintro k e H' ⟨i, hi, rfl, rfl, g0, g1, g5, hlo⟩
      by_cases hlt : i < l.length
      · obtain ⟨x, hx⟩ := get_lt' hlt
        obtain ⟨y, hy⟩ := get_lt' (l := m) (i := i) (by omega)
        obtain ⟨b, o, c, t, w, mk, rfl, _, hb1, hb2, hb3, hb4⟩ := str_at h hx
        obtain ⟨b', o', c', t', w', mk', rfl, _, hb1', hb2', hb3', hb4'⟩ := str_at h' hy
        have hlt' : i < m.length := by omega
        refine walk (both g0 (both g1 (both g5 hlt))) ?_
        refine Wq.regionD [0, 1, 2, 3, 4, 5, 6, 7, 8] (by kernel_rfl) ?_
        by_cases he : x = y
        · subst he
          refine walk (both g0 (both g1 (both g5 (both hlt (both hlt' (both hb2 (both hb3 (both hb4 (both hb2' (both hb3' hb4')))))))))) ?_
          refine Roundq.normal (l.length - (i + 1)) (by omega) ⟨i + 1, by omega, rfl, rfl, by simp [g0], by simp [g1], by simp, ?_⟩
          rw [List.take_add_one, List.take_add_one, hlo, hx, hy]
        · refine walk (both g0 (both g1 (both g5 (both hlt (both hlt' (both hb2 (both hb3 (both hb4 (both hb2' (both hb3' (both hb4' he))))))))))) ?_
          refine ⟨?_, rfl⟩
          have : l ≠ m := by rintro rfl; rw [hx] at hy; injection hy with hy; exact he hy
          simp [this]
      · refine walk (both g0 (both g1 (both g5 hlt))) ?_
        refine ⟨?_, rfl⟩
        rw [List.take_of_length_le (by omega), List.take_of_length_le (by omega)] at hlo
        simp [hlo]
  · refine walk hl ?_
    refine ⟨?_, rfl⟩
    have : l ≠ m := by rintro rfl; exact hl rfl
    simp [this]
def pageT (S : List EntT) (f n : Int) : List Txt := if f < 0 then [] else ((S.drop f.toNat).take n.toNat).map Prod.fst
theorem Page14_ok {H : Heap} {p : Nat} {slv : AV} {S : List EntT} (h : DirR H p slv S) (f n : Int) : Cl Try.prog pr05 14 [.ptr (some (p, 0)), .int .i64 f, .int .i64 n] H fun w H' => FreshG H H' 9 1 w (pageT S f n).length (strs (pageT S f n)) := by
  have hfew := h.few
  by_cases h1 : f < 0
  · have hp : pageT S f n = [] := by unfold pageT; rw [if_pos h1]
    rw [hp]
    refine Cl.enter Try.func14 rfl rfl Try.ntmps14 (by simp) ?_
    refine walk h1 ?_
    exact FreshG.nil Upd.rfl
  · by_cases h2 : n < 0
    · have hp : pageT S f n = [] := by unfold pageT; rw [if_neg h1, show n.toNat = 0 by omega]; simp
      rw [hp]
      refine Cl.enter Try.func14 rfl rfl Try.ntmps14 (by simp) ?_
      refine walk (both h1 h2) ?_
      exact FreshG.nil Upd.rfl
    · obtain ⟨a, rfl⟩ : ∃ a : Nat, f = a := ⟨f.toNat, by omega⟩
      obtain ⟨c, rfl⟩ : ∃ c : Nat, n = c := ⟨n.toNat, by omega⟩
      have hP : pageT S a c = ((S.drop a).take c).map Prod.fst := by unfold pageT; rw [if_neg h1]; rfl
      rw [hP]
      refine Cl.enter Try.func14 rfl rfl Try.ntmps14 (by simp) ?_
      refine walk (both h1 h2) ?_
      refine (Len11_ok h).mono fun r H1 _ ⟨ea, eb⟩ => ?_
      subst ea; subst eb
      by_cases h3 : S.length < a
      · have h3I : (S.length : Int) < a := by omega
        rw [List.drop_of_length_le (by omega)]
        refine walk h3I ?_
        simp only [List.take_nil]
        exact FreshG.nil Upd.rfl
      · have h3I : ¬ (S.length : Int) < a := by omega
        refine walk h3I ?_
        refine Wq.loop (fun m e H' => ∃ (k j : Nat) (w : AV), k = a + j ∧ k ≤ S.length ∧ j ≤ c ∧ m = S.length - k ∧ e 0 = .ptr (some (p, 0)) ∧ e 2 = .int .i64 c ∧ e 7 = w ∧ e 8 = .int .i64 k ∧ FreshG H1 H' 9 1 w j (strs (((S.drop a).take j).map Prod.fst))) (S.length - a) ?_ ?_
        · exact ⟨a, 0, .slice none 0 0 none, by omega, by omega, by omega, by omega, by simp, by simp, by simp, by simp, FreshG.nil Upd.rfl⟩
        · rintro m e H' ⟨k, j, w, hk, hkl, hjc, rfl, g0, g2, g7, g8, hF⟩
          obtain ⟨wa, wc, wx, rfl, _⟩ := hF.own.form
          have hd := h.kept hF.keep
          have hlen := Len11_ok hd
          by_cases h4 : k < S.length
          · have h4I : (k : Int) < S.length := by omega
            by_cases h5 : j < c
            · have h5I : (j : Int) < c := by omega
              obtain ⟨t, q, hx⟩ := geti_ltT (l := S) (i := k) h4
              have hg := hd.g
              obtain ⟨a', cap, ex, rfl, _⟩ := hd.own.form
              obtain ⟨b, o, cc, ty, w, mk, rfl, q1, q2, q3, q4, q5, q6⟩ := ent_at hd.own.sl hx
              have q3a : o + k * 2 < cc.length := by omega
              have hst : ((S.drop a).take (j + 1)).map Prod.fst = ((S.drop a).take j).map Prod.fst ++ [t] := by
                rw [List.take_add_one, List.getElem?_drop, ← hk, hx]
                simp
              refine walk (both g0 (both g2 (both g7 g8))) ?_
              refine hlen.mono fun r H2 _ ⟨ea, eb⟩ => ?_
              subst ea; subst eb
              refine walk (both g0 (both g2 (both g7 (both g8 (both h4 (both h4I (both h5I (both h5 (both hg (both q2 (both q3a q5))))))))))) ?_
              have kB : Keep H2 (H2.push (.cells [.str t] 9 true false)) := Upd.rfl.push _
              refine Oq.appendG (own := (hF.own.kept kB)) (new := [.str t]) (m := 1) (by simp (disch := omega) [g7, -getElem?_pos, wrapI64, tdivN, tmodN, ipos, ineg, dpos, dneg, slc_l, slc_h, slc_lh, slc_hm, slc_lhm, slc_0, slcR_some, slcR_none, cutS_ok, cutA_ok, byteAt_ok]; first | done | (repeat' (first | rfl | apply And.intro))) ⟨_, rfl, by simp; first | done | (repeat' (first | rfl | apply And.intro))⟩ rfl (by kernel_rfl) (by kernel_rfl) (by refine ⟨by simp, ?_⟩; simp (disch := omega) [srcCells, cellsAt, g7, -getElem?_pos, wrapI64, tdivN, tmodN, ipos, ineg, dpos, dneg, slc_l, slc_h, slc_lh, slc_hm, slc_lhm, slc_0, slcR_some, slcR_none, cutS_ok, cutA_ok, byteAt_ok]; first | done | rfl) (by simp [g7]) (by simp [g7]) (by omega) (by omega) fun w1 H3 o1 b1 s1 => ?_
              have f1 := (hF.then kB).app o1 b1 s1
              refine walk (both g0 (both g2 g8)) ?_
              refine Roundq.normal (S.length - (k + 1)) (by omega) ⟨k + 1, j + 1, w1, by omega, by omega, by omega, rfl, by simp [g0], by simp [g2], by simp, by simp, ?_⟩
              rw [hst, ← strs_app]
              exact f1
            · have h5I : ¬ (j : Int) < c := by omega
              obtain rfl : j = c := by omega
              refine walk (both g0 (both g2 (both g7 g8))) ?_
              refine hlen.mono fun r H2 _ ⟨ea, eb⟩ => ?_
              subst ea; subst eb
              refine walk (both g0 (both g2 (both g7 (both g8 (both h4 (both h4I h5I)))))) ?_
              rw [show (((S.drop a).take j).map Prod.fst).length = j by simp; omega]
              exact hF
          · have h4I : ¬ (k : Int) < S.length := by omega
            have e1 : (S.drop a).take j = (S.drop a).take c := by rw [List.take_of_length_le (by simp; omega), List.take_of_length_le (by simp; omega)]
            refine walk (both g0 (both g2 (both g7 g8))) ?_
            refine hlen.mono fun r H2 _ ⟨ea, eb⟩ => ?_
            subst ea; subst eb
            refine walk (both g0 (both g2 (both g7 (both g8 (both h4 h4I))))) ?_
            rw [← e1, show (((S.drop a).take j).map Prod.fst).length = j by simp; omega]
            exact hF
theorem Names18_ok {H : Heap} {p : Nat} {slv : AV} {S : List EntT} (h : DirR H p slv S) : Cl Try.prog pr05 18 [.ptr (some (p, 0))] H fun w H' => FreshG H H' 9 1 w (S.map Prod.fst).length (strs (S.map Prod.fst)) := by
  have hP : pageT S 0 S.length = S.map Prod.fst := by unfold pageT; simp
  refine Cl.enter Try.func18 rfl rfl Try.ntmps18 (by simp) ?_
  refine walk none0 ?_
  refine (Len11_ok h).mono fun r H1 _ ⟨ea, eb⟩ => ?_
  subst ea; subst eb
  refine walk none0 ?_
  refine (Page14_ok h 0 S.length).mono fun w H2 _ hF => ?_
  rw [hP] at hF
  obtain ⟨wa, wc, wx, rfl, _⟩ := hF.own.form
  refine walk none0 ?_
  rw [List.length_map] at hF ⊢
  exact hF
end Go.Abs

/- Chapter 05: the reference's names, walked. -/
namespace Go.Abs
open Go.Proofs
set_option maxRecDepth 100000
set_option linter.unusedVariables false
set_option linter.unusedSimpArgs false

/-- How many names are below one. -/
def rankT (L : List EntT) (s : Nm8) : Nat := L.countP fun y => decide (ltN y.1 s)
theorem rank_lt {L : List EntT} {i : Nat} {x : EntT} (h : L[i]? = some x) : rankT L x.1 < L.length := by
  have hp := perm_erase h
  unfold rankT
  rw [hp.countP_eq, List.countP_cons_of_neg (by simp [ltN_irrefl])]
  have h1 := List.countP_le_length (p := fun y : EntT => decide (ltN y.1 x.1)) (l := L.eraseIdx i)
  have h2 := hp.length_eq
  simp only [List.length_cons] at h2
  omega
theorem rank_mono {L : List EntT} {i : Nat} {x : EntT} {s : Nm8} (h : L[i]? = some x) (hl : ltN x.1 s) : rankT L x.1 < rankT L s := by
  have hp := perm_erase h
  unfold rankT
  rw [hp.countP_eq, hp.countP_eq, List.countP_cons_of_neg (by simp [ltN_irrefl]), List.countP_cons_of_pos (by simp [hl])]
  refine Nat.lt_succ_of_le (List.countP_mono_left fun y _ hy => ?_)
  simp only [decide_eq_true_eq] at hy ⊢
  exact ltN_trans hy hl
theorem rank_inj {L : List EntT} {i j : Nat} {x y : EntT} (hx : L[i]? = some x) (hy : L[j]? = some y) (h : rankT L x.1 = rankT L y.1) : x.1 = y.1 := by
  refine ltN_total (fun g => ?_) (fun g => ?_)
  · have := rank_mono hx g; omega
  · have := rank_mono hy g; omega
theorem rank_sorted {S : List EntT} (hr : Rising S) {k : Nat} {x : EntT} (hk : S[k]? = some x) : rankT S x.1 = k := by
  have hkl := (List.getElem?_eq_some_iff.1 hk).1
  have hd := List.drop_eq_getElem_cons hkl
  have hS : S = S.take k ++ S.drop k := (List.take_append_drop k S).symm
  unfold rankT
  conv => lhs; rw [hS]
  rw [List.countP_append]
  have h1 : (S.take k).countP (fun y => decide (ltN y.1 x.1)) = k := by
    have : (S.take k).countP (fun y => decide (ltN y.1 x.1)) = (S.take k).length := List.countP_eq_length.2 fun y hy => by
      obtain ⟨i, hi⟩ := List.mem_iff_getElem?.1 hy
      rw [List.getElem?_take] at hi
      split at hi
      · simp only [decide_eq_true_eq]; exact hr i k y x (by omega) hi hk
      · cases hi
    rw [this, List.length_take]
    omega
  have h2 : (S.drop k).countP (fun y => decide (ltN y.1 x.1)) = 0 := List.countP_eq_zero.2 fun y hy => by
    obtain ⟨i, hi⟩ := List.mem_iff_getElem?.1 hy
    rw [List.getElem?_drop] at hi
    simp only [decide_eq_true_eq]
    intro g
    rcases Nat.eq_zero_or_pos i with h0 | h0
    · subst h0
      rw [Nat.add_zero, hk] at hi
      injection hi with hi
      rw [← hi] at g
      exact ltN_irrefl _ g
    · exact ltN_asymm g (hr k (k + i) x y (by omega) hk hi)
  rw [h1, h2, Nat.add_zero]
/-- What the reference's names are. -/
def RankR (L : List EntT) (R : List Txt) : Prop := R.length = L.length ∧ ∀ (i : Nat) (x : EntT), L[i]? = some x → R[rankT L x.1]? = some x.1
theorem RankR.sorted {S L : List EntT} {R : List Txt} (hr : Rising S) (hp : S.Perm L) (h : RankR L R) : R = S.map Prod.fst := by
  apply List.ext_getElem?
  intro k
  by_cases hk : k < S.length
  · obtain ⟨s, n, hx⟩ := geti_ltT hk
    obtain ⟨i, hi⟩ := List.mem_iff_getElem?.1 (hp.mem_iff.1 (List.mem_of_getElem? hx))
    have h1 := h.2 i _ hi
    have h2 : rankT L s = rankT S s := by unfold rankT; rw [hp.countP_eq]
    have h3 := rank_sorted hr hx
    simp only [] at h1 h3
    rw [h2, h3] at h1
    rw [h1, List.getElem?_map, hx]
    rfl
  · rw [List.getElem?_eq_none (by rw [h.1, ← hp.length_eq]; omega), List.getElem?_eq_none (by simp; omega)]
theorem zeros38 : ∀ n, zeros [.str []] n = strs (List.replicate n [])
  | 0 => rfl
  | n + 1 => by simp only [zeros, List.replicate_succ, strs, List.map_cons]; rw [zeros38 n]; rfl
theorem make38 (n : Nat) (hn : n ≤ 64) (H : Heap) : makeSliceR Try.prog 38 (some (.int .i64 n)) (some (.int .i64 n)) H = some (.slice (some (H.next, 0)) n n none, H.push (.cells (strs (List.replicate n [])) 9 true false)) := by
  have h : elemF Try.prog 38 = some (9, 16, 1, [.str []]) := by kernel_rfl
  rw [makeSliceR_eq h (by omega), zeros38, Int.toNat_natCast]
theorem less_ok (a b : Nm8) (H : Heap) : binR Try.prog .lss 9 (some (.str a)) (some (.str b)) H = some (.bool (decide (ltN a b)), H) := by
  simp [binR, binSem, strOp, bytesLess_lt, Sm.run]
end Go.Abs

/- Chapter 05: the reference's Names and Page, walked. -/
namespace Go.Abs
open Go.Proofs
set_option maxRecDepth 100000
set_option linter.unusedVariables false
set_option linter.unusedSimpArgs false

set_option maxHeartbeats 1000000 in
theorem refNames19_ok {H : Heap} {v : AV} {L : List EntT} (h : RefE H v L) : Cl Try.prog pr05 19 [v] H fun w H' => ∃ R, RankR L R ∧ FreshG H H' 9 1 w R.length (strs R) := by
  obtain ⟨va, cap, ex, rfl, hc, hex⟩ := h.form
  have hfew := h.few
  have hmk := make38 L.length hfew
  have kB : Keep H (H.push (.cells (strs (List.replicate L.length [])) 9 true false)) := Upd.rfl.push _
  have hrep : (List.replicate L.length ([] : Txt)).length = L.length := by simp
  refine Cl.enter Try.func19 rfl rfl Try.ntmps19 (by simp) ?_
  refine walk hmk ?_
  generalize List.replicate L.length ([] : Txt) = R0 at *
  refine Wq.loop (fun m e H' => ∃ (i : Nat) (R : List Txt), i ≤ L.length ∧ m = L.length - i ∧ R.length = L.length ∧ e 0 = .slice va L.length cap ex ∧ e 3 = .slice (some (H.next, 0)) L.length L.length none ∧ e 4 = .int .i64 i ∧ H'.get H.next = some (.cells (strs R) 9 true false) ∧ Keep H H' ∧ H.next < H'.next ∧ ∀ (j : Nat) (x : EntT), j < i → L[j]? = some x → R[rankT L x.1]? = some x.1) L.length ?_ ?_
  · exact ⟨0, R0, by omega, by omega, hrep, by simp, by simp, by simp, by simp, kB, by simp, fun j x h => by omega⟩
  · rintro m e H' ⟨i, R, hi, rfl, hR, g0, g3, g4, gB, kk, nB, hdone⟩
    by_cases hlt : i < L.length
    · have hltI : (i : Int) < L.length := by omega
      obtain ⟨si, ni, hxi⟩ := geti_ltT (l := L) (i := i) hlt
      have hS := (h.kept kk).sl
      have hS0 := hS
      refine walk (both g0 (both g3 (both g4 (both hlt hltI)))) ?_
      obtain ⟨b, o, c, ty, w, mk, hva, q1, q2, q3, q4, q5, q6⟩ := ent_at hS hxi
      subst hva
      have q3a : o + i * 2 < c.length := by omega
      refine Wq.loop (fun m e H2 => ∃ (k : Nat), k ≤ L.length ∧ m = L.length - k ∧ H2 = H' ∧ e 0 = .slice (some (b, o)) L.length cap ex ∧ e 3 = .slice (some (H.next, 0)) L.length L.length none ∧ e 4 = .int .i64 i ∧ e 5 = .int .i64 ((L.take k).countP fun y => decide (ltN y.1 si)) ∧ e 6 = .int .i64 k) L.length ?_ ?_
      · exact ⟨0, by omega, by omega, rfl, by simp [g0], by simp [g3], by simp [g4], by simp, by simp⟩
      · rintro m2 e2 H2 ⟨k, hk, rfl, rfl, d0, d3, d4, d5, d6⟩
        have hcl := List.countP_le_length (p := fun y : EntT => decide (ltN y.1 si)) (l := L.take k)
        rw [List.length_take] at hcl
        by_cases hkl : k < L.length
        · have hklI : (k : Int) < L.length := by omega
          obtain ⟨sk, nk, hxk⟩ := geti_ltT (l := L) (i := k) hkl
          obtain ⟨b', o', c', ty', w', mk', e', p1, p2, p3, p4, p5, p6⟩ := ent_at hS0 hxk
          injection e' with e'
          injection e' with e1 e2
          subst e1; subst e2
          rw [q2] at p2
          injection p2 with p2
          injection p2 with p2 _ _ _
          subst p2
          have p3a : o + k * 2 < c.length := by omega
          have hless := less_ok sk si
          have hst : (L.take (k + 1)).countP (fun y => decide (ltN y.1 si)) = (L.take k).countP (fun y => decide (ltN y.1 si)) + if ltN sk si then 1 else 0 := by
            rw [List.take_add_one, hxk, List.countP_append]
            simp [List.countP_cons]
          generalize (L.take k).countP (fun y => decide (ltN y.1 si)) = n0 at *
          by_cases hll : ltN sk si
          · rw [if_pos hll] at hst
            rw [decide_eq_true hll] at hless
            refine walk (both d0 (both d3 (both d4 (both d5 (both d6 (both hkl hklI)))))) ?_
            refine Wq.regionD [0, 1, 2, 3, 4, 5, 6, 7, 8, 9, 10] (by kernel_rfl) ?_
            refine walk (both d0 (both d3 (both d4 (both d5 (both d6 (both hkl (both hklI (both hlt (both hltI (both q2 (both p3a (both q3a (both p5 (both q5 hless)))))))))))))) ?_
            exact Roundq.normal (L.length - (k + 1)) (by omega) ⟨k + 1, by omega, rfl, rfl, by simp [d0], by simp [d3], by simp [d4], by simp [hst], by simp⟩
          · rw [if_neg hll] at hst
            rw [decide_eq_false hll] at hless
            refine walk (both d0 (both d3 (both d4 (both d5 (both d6 (both hkl hklI)))))) ?_
            refine Wq.regionD [0, 1, 2, 3, 4, 5, 6, 7, 8, 9, 10] (by kernel_rfl) ?_
            refine walk (both d0 (both d3 (both d4 (both d5 (both d6 (both hkl (both hklI (both hlt (both hltI (both q2 (both p3a (both q3a (both p5 (both q5 hless)))))))))))))) ?_
            exact Roundq.normal (L.length - (k + 1)) (by omega) ⟨k + 1, by omega, rfl, rfl, by simp [d0], by simp [d3], by simp [d4], by simp [d5, hst], by simp⟩
        · have hklI : ¬ (k : Int) < L.length := by omega
          rw [List.take_of_length_le (by omega)] at d5
          have hrk : (L.countP fun y => decide (ltN y.1 si)) = rankT L si := rfl
          rw [hrk] at d5
          have hrl := rank_lt hxi
          simp only [] at hrl
          have hinj := fun (j : Nat) (x : EntT) (hj : L[j]? = some x) => rank_inj (L := L) hj hxi
          generalize hr0 : rankT L si = r at *
          have hrlI : (r : Int) < L.length := by omega
          have hrR : r < (strs R).length := by simp; omega
          have hset : (strs R).set r (.str si) = strs (R.set r si) := by simp [strs, List.map_set]
          refine walk (both d0 (both d3 (both d4 (both d5 (both d6 (both hkl (both hklI (both hlt (both hltI (both q2 (both q3a (both q5 (both hrlI (both hrl (both gB hrR))))))))))))))) ?_
          rw [hset]
          refine Roundq.normal (L.length - (i + 1)) (by omega) ⟨i + 1, R.set r si, by omega, rfl, by rw [List.length_set]; exact hR, by simp [d0], by simp [d3], by simp, Heap.get_set_same _ _ _, kk.set _ nB (by omega), by simp; exact nB, fun j x hj hx => ?_⟩
          rcases Nat.lt_or_ge j i with h' | h'
          · have h1 := hdone j x h' hx
            by_cases er : r = rankT L x.1
            · have := hinj j x hx er.symm
              simp only [] at this
              rw [← er, List.getElem?_set_self (by omega), this]
            · rw [List.getElem?_set_ne er]
              exact h1
          · obtain rfl : j = i := by omega
            rw [hxi] at hx
            injection hx with hx
            rw [← hx]
            show (R.set r si)[rankT L si]? = some si
            rw [hr0, List.getElem?_set_self (by omega)]
    · obtain rfl : i = L.length := by omega
      have hltI : ¬ ((L.length : Nat) : Int) < L.length := by omega
      refine walk (both g0 (both g3 g4)) ?_
      exact ⟨R, ⟨hR, fun j x hx => hdone j x (List.getElem?_eq_some_iff.1 hx).1 hx⟩, by rw [hR]; exact FreshG.made kk (by simp; omega) (Nat.le_refl _) nB gB⟩
end Go.Abs

/- Chapter 05: the reference's Page, walked. -/
namespace Go.Abs
open Go.Proofs
set_option maxRecDepth 100000
set_option linter.unusedVariables false
set_option linter.unusedSimpArgs false

def pageR (R : List Txt) (f n : Int) : List Txt := if f < 0 then [] else (R.drop f.toNat).take n.toNat
theorem pageR_T (S : List EntT) (f n : Int) : pageR (S.map Prod.fst) f n = pageT S f n := by
  unfold pageR pageT
  split
  · rfl
  · rw [List.map_take, List.map_drop]
set_option maxHeartbeats 1000000 in
theorem refPage15_ok {H : Heap} {v : AV} {L : List EntT} (h : RefE H v L) (f n : Int) (hf2 : f ≤ 9223372036854775807) : Cl Try.prog pr05 15 [v, .int .i64 f, .int .i64 n] H fun w H' => ∃ R, RankR L R ∧ Keep H H' ∧ Ss H' w (pageR R f n) := by
  obtain ⟨va, cap, ex, rfl, hc, hex⟩ := h.form
  have hfew := h.few
  have kB : Keep H (H.push (.cells [] 9 true false)) := Upd.rfl.push _
  have gB : (H.push (.cells [] 9 true false)).get H.next = some (.cells [] 9 true false) := by simp
  have nB : (H.push (.cells [] 9 true false)).next = H.next + 1 := by simp
  refine Cl.enter Try.func15 rfl rfl Try.ntmps15 (by simp) ?_
  refine walk none0 ?_
  generalize H.push (.cells [] 9 true false) = H1 at *
  refine (refNames19_ok (h.kept kB)).mono fun w H2 _ ⟨R, hR, hF⟩ => ?_
  have hRl := hR.1
  obtain ⟨ra, rc, rx, rfl, _⟩ := hF.own.form
  have gB2 := (hF.keep.get (by omega)).trans gB
  have hn2 := hF.keep.next
  have hrnew := hF.new
  have hS2 : Ss H2 (.slice ra R.length rc rx) R := hF.own.sl
  have k2 := kB.then hF.keep
  by_cases h1 : f < 0
  · have hp : pageR R f n = [] := by unfold pageR; rw [if_pos h1]
    refine walk h1 ?_
    refine ⟨R, hR, k2, ?_⟩
    rw [hp]
    exact (OwnSl.mk (n := 0) (elem := 9) (s := 1) (cs := []) (by simp) (by omega) gB2).sl
  · obtain ⟨a, rfl⟩ : ∃ a : Nat, f = a := ⟨f.toNat, by omega⟩
    have hP : pageR R a n = (R.drop a).take n.toNat := by unfold pageR; rw [if_neg h1]; rfl
    rw [show (fun (w : AV) (H' : Heap) => ∃ R, RankR L R ∧ Keep H H' ∧ Ss H' w (pageR R a n)) = (fun (w : AV) (H' : Heap) => ∃ R, RankR L R ∧ Keep H H' ∧ Ss H' w (pageR R a n)) from rfl]
    refine walk h1 ?_
    refine Wq.loop (fun m e H' => ∃ (k j : Nat) (w : AV), k = a + j ∧ (j = 0 ∨ (k ≤ R.length ∧ (j : Int) ≤ n)) ∧ m = R.length - k ∧ e 1 = .int .i64 a ∧ e 2 = .int .i64 n ∧ e 7 = w ∧ e 8 = .slice ra R.length rc rx ∧ e 9 = .int .i64 k ∧ OwnG H' 9 1 w j (strs ((R.drop a).take j)) ∧ Keep H H' ∧ Ss H' (.slice ra R.length rc rx) R ∧ H2.next ≤ H'.next ∧ (∀ z, slBlock w = some z → z = H.next ∨ H2.next ≤ z) ∧ ∀ z, slBlock w = some z → z < H'.next) (R.length - a) ?_ ?_
    · exact ⟨a, 0, .slice (some (H.next, 0)) 0 0 none, by omega, .inl rfl, by omega, by simp, by simp, by simp, by simp, by simp, .empty _, k2, hS2, by omega, fun z hz => .inl (by simp [slBlock] at hz; exact hz.symm), fun z hz => by simp [slBlock] at hz; omega⟩
    · rintro m e H' ⟨k, j, w, hk, hj, rfl, g1, g2, g7, g8, g9, hO, kk, hS, hH, hw1, hw2⟩
      obtain ⟨wa, wc, wx, rfl, _⟩ := hO.form
      have hsub : (k : Int) - a = j := by omega
      by_cases h4 : k < R.length
      · have h4I : (k : Int) < R.length := by omega
        by_cases h5 : (j : Int) < n
        · obtain ⟨t, hx⟩ := get_lt' h4
          obtain ⟨b, o, cc, ty, w, mk, hra, _, q1, q2, q3, q4⟩ := str_at hS hx
          subst hra
          have hst : (R.drop a).take (j + 1) = (R.drop a).take j ++ [t] := by
            rw [List.take_add_one, List.getElem?_drop, ← hk, hx]
            rfl
          refine walk (both g1 (both g2 (both g7 (both g8 (both g9 (both h4 (both h4I (both hsub (both h5 (both q2 (both q3 q4))))))))))) ?_
          have kC : Keep H' (H'.push (.cells [.str t] 9 true false)) := Upd.rfl.push _
          refine Oq.appendL (own := (hO.kept kC)) (new := [.str t]) (m := 1) (by simp (disch := omega) [g7, -getElem?_pos, wrapI64, tdivN, tmodN, ipos, ineg, dpos, dneg, slc_l, slc_h, slc_lh, slc_hm, slc_lhm, slc_0, slcR_some, slcR_none, cutS_ok, cutA_ok, byteAt_ok]; first | done | (repeat' (first | rfl | apply And.intro))) ⟨_, rfl, by simp; first | done | (repeat' (first | rfl | apply And.intro))⟩ rfl (by kernel_rfl) (by kernel_rfl) (by refine ⟨by simp, ?_⟩; simp (disch := omega) [srcCells, cellsAt, g7, -getElem?_pos, wrapI64, tdivN, tmodN, ipos, ineg, dpos, dneg, slc_l, slc_h, slc_lh, slc_hm, slc_lhm, slc_0, slcR_some, slcR_none, cutS_ok, cutA_ok, byteAt_ok]; first | done | rfl) (by simp [g7]) (by simp [g7]) (by omega) (by omega) fun w1 H3 o1 b1 s1 l1 => ?_
          have hb1 := b1.1
          simp only [Heap.next_push] at hb1
          refine walk (both g1 (both g2 (both g8 g9))) ?_
          have hjl : j ≤ 64 := by omega
          refine Roundq.normal (R.length - (k + 1)) (by omega) ⟨k + 1, j + 1, w1, by omega, .inr ⟨by omega, by omega⟩, rfl, by simp [g1], by simp [g2], by simp, by simp [g8], by simp, ?_, (kk.then kC).butOne b1 fun z hz hz2 => ?_, ?_, by omega, fun z hz => ?_, fun z hz => ?_⟩
          · rw [hst, ← strs_app]
            exact o1
          · rcases hw1 z hz with g | g
            · omega
            · have := k2.next; omega
          · refine (hS.kept kC).butOne b1 fun z hz e => ?_
            have h6 := hrnew z hz
            have h7 : z < H2.next := by
              have := hS2
              obtain ⟨b', o', c', t', w', m', e', h8, _⟩ := Sl.at hS2 (by omega)
              injection e' with e'
              injection e' with e1 e2
              simp [slBlock] at hz
              omega
            rcases hw1 z e with g | g
            · omega
            · omega
          · rcases s1 with g | g
            · exact hw1 z (g ▸ hz)
            · rw [g] at hz; injection hz with hz; simp at hz; exact .inr (by omega)
          · rcases l1 z hz with g | g
            · have := hw2 z g; omega
            · exact g
        · have e1 : (R.drop a).take j = (R.drop a).take n.toNat := by
            rcases hj with h0 | ⟨_, h0⟩
            · rw [h0, show n.toNat = 0 by omega]
            · rw [show n.toNat = j by omega]
          refine walk (both g1 (both g2 (both g7 (both g8 (both g9 (both h4 (both h4I (both hsub h5)))))))) ?_
          refine ⟨R, hR, kk, ?_⟩
          rw [hP, ← e1]
          have hl : ((R.drop a).take j).length = j := by
            rw [List.length_take, List.length_drop]
            rcases hj with h0 | ⟨h0, _⟩ <;> omega
          show Sl H' 1 _ ((R.drop a).take j).length _
          rw [hl]
          exact hO.sl
      · have h4I : ¬ (k : Int) < R.length := by omega
        have hl : ((R.drop a).take j).length = j := by
          rw [List.length_take, List.length_drop]
          rcases hj with h0 | ⟨h0, _⟩ <;> omega
        have e1 : (R.drop a).take j = (R.drop a).take n.toNat := by
          rw [List.take_of_length_le (by rw [List.length_drop]; omega)]
          rcases hj with h0 | ⟨h0, h0'⟩
          · rw [List.drop_of_length_le (by omega)]; simp
          · rw [List.take_of_length_le (by rw [List.length_drop]; omega)]
        refine walk (both g1 (both g2 (both g7 (both g8 (both g9 (both h4 h4I)))))) ?_
        refine ⟨R, hR, kk, ?_⟩
        rw [hP, ← e1]
        show Sl H' 1 _ ((R.drop a).take j).length _
        rw [hl]
        exact hO.sl
end Go.Abs

/- Chapter 05: acts that come in. -/
namespace Go.Abs
open Go.Proofs
set_option maxRecDepth 100000
set_option linter.unusedVariables false
set_option linter.unusedSimpArgs false

structure ActD where
  k : Int
  s : List UInt8
  ino : Int
def encD (x : ActD) : List AV := [.int .i64 x.k, .str x.s, .int .i64 x.ino]
theorem act_pic {H : Heap} {n : Nat} {cs : List AV} (h : Pic Try.prog H (n + 2) 36 cs) : ∃ x : ActD, cs = encD x ∧ x.s.length ≤ maxLen := by
  unfold Pic at h
  simp only [Try.underlying36] at h
  obtain ⟨hl, hf⟩ := h
  have c3 : Try.prog.cellsOf 3 = 1 := by kernel_rfl
  have c9 : Try.prog.cellsOf 9 = 1 := by kernel_rfl
  have c36 : Try.prog.cellsOf 36 = 3 := by kernel_rfl
  rw [c36] at hl
  match cs, hl with
  | [a, b, c], _ =>
    simp [c3, c9] at hf
    obtain ⟨h0, h1, h2⟩ := hf
    obtain ⟨k, e0, _⟩ := pic_int (k := .i64) Try.underlying3 h0
    obtain ⟨s, e1, hs⟩ := pic_str Try.underlying9 h1
    obtain ⟨m, e2, _⟩ := pic_int (k := .i64) Try.underlying3 h2
    simp at e0 e1 e2
    subst e0; subst e1; subst e2
    exact ⟨⟨k, s, m⟩, rfl, hs⟩
theorem act_ofD {H : Heap} {n : Nat} {a : AV} (h : PicV Try.prog H (n + 2) 36 a) : ∃ x : ActD, a = .agg [.int .i64 x.k, .str x.s, .int .i64 x.ino] ∧ x.s.length ≤ maxLen := by
  unfold PicV at h
  simp only [Try.underlying36] at h
  obtain ⟨cs, rfl, h⟩ := h
  obtain ⟨x, rfl, hs⟩ := act_pic h
  exact ⟨x, rfl, hs⟩
def ActsD (H : Heap) (v : AV) (l : List ActD) : Prop := ∃ c, Sl H 3 v l.length c ∧ (∀ z, slBlock v = some z → z < H.next) ∧ l.length ≤ maxLen ∧ ∀ i x, l[i]? = some x → (c.drop (i * 3)).take 3 = encD x ∧ x.s.length ≤ maxLen
theorem ActsD.upd {H H' : Heap} {v : AV} {l : List ActD} {fp : Nat → Prop} (h : ActsD H v l) (u : Upd fp H H') (hd : ∀ z, z < H.next → ¬ fp z) : ActsD H' v l := by
  obtain ⟨c, h1, h2, h3⟩ := h
  exact ⟨c, h1.upd u fun z hz _ => hd z (h2 z hz), fun z hz => by have := h2 z hz; have := u.next; omega, h3⟩
theorem ActsD.form {H : Heap} {v : AV} {l : List ActD} (h : ActsD H v l) : ∃ a cap ex, v = .slice a l.length cap ex ∧ l.length ≤ maxLen := by
  obtain ⟨c, h1, h2, h3, h4⟩ := h
  obtain ⟨a, cap, ex, rfl, _⟩ := h1.form
  exact ⟨a, cap, ex, rfl, h3⟩
theorem ActsD.at {H : Heap} {a : Option (Nat × Nat)} {cap : Nat} {ex : Option Nat} {l : List ActD} {i : Nat} {x : ActD} (h : ActsD H (.slice a l.length cap ex) l) (hx : l[i]? = some x) :
    ∃ b o c t w m, a = some (b, o) ∧ b < H.next ∧ H.get b = some (.cells c t w m) ∧ o + i * 3 + 3 ≤ c.length ∧ (c.drop (o + i * 3)).take 3 = [.int .i64 x.k, .str x.s, .int .i64 x.ino] ∧ x.s.length ≤ maxLen := by
  obtain ⟨c, h1, h2, h3, h4⟩ := h
  have hi := (List.getElem?_eq_some_iff.1 hx).1
  obtain ⟨b, o, c', t, w, m, rfl, g1, g2, g3, g4⟩ := h1.at (by omega)
  obtain ⟨e, q⟩ := h4 i x hx
  refine ⟨b, o, c', t, w, m, rfl, g1, g2, by omega, ?_, q⟩
  rw [sub_take g4 (by omega)]
  exact e
theorem actsD_of {H : Heap} {v : AV} (h : Pic Try.prog H 3 31 [v]) : ∃ l, ActsD H v l := by
  obtain ⟨len, c, h1, h2, h3, h4⟩ := pic_slice (s := 3) Try.underlying31 (by kernel_rfl) h
  obtain ⟨l, hl, hp⟩ := list_of (p := fun i (x : ActD) => (c.drop (i * 3)).take 3 = encD x ∧ x.s.length ≤ maxLen) (n := len) fun i hi => act_pic (n := 0) (h4 i hi)
  exact ⟨l, c, by rw [hl]; exact h1, h3, by omega, hp⟩
end Go.Abs

/- Chapter 05: DirsActs. -/
namespace Go.Abs
open Go.Proofs
set_option maxRecDepth 100000
set_option linter.unusedVariables false
set_option linter.unusedSimpArgs false

theorem sl_pushed0 {H : Heap} {t : TypeId} : Sl (H.push (.cells [] t true false)) 2 (.slice (some (H.next, 0)) 0 0 none) 0 [] := by
  have h : OwnSl (H.push (.cells [] t true false)) t 2 (.slice (some (H.next, 0)) 0 0 none) 0 [] := OwnSl.mk rfl (by simp) (by simp)
  exact h.sl
theorem bothD_new {H0 H : Heap} {p : Nat} {t : TypeId} (k : Keep H0 H) (h : DirR H p (.slice none 0 0 none) []) (hb : H0.next ≤ p) : BothD H0 (H.push (.cells [] t true false)) p (.slice none 0 0 none) [] (.slice (some (H.next, 0)) 0 0 none) [] := by
  refine ⟨h.kept (Upd.rfl.push _), ⟨sl_pushed0, fun z hz => ?_, by simp, fun i j x y hx => by simp at hx, by simp⟩, .refl _, fun z hz => ⟨?_, by simp [slBlock]⟩, hb, by simp [slBlock], k.push _⟩
  · simp [slBlock] at hz; subst hz; simp
  · simp [slBlock] at hz; subst hz; have := h.lt; omega

set_option maxHeartbeats 4000000 in
theorem dirsActs_main (va : AV) (l0 : List ActD) (s : Nm8) (H : Heap) (hl : ActsD H va l0) : Cl Try.prog pr05 5 [va, .str s] H fun v _ => v = .bool true := by
  obtain ⟨a, cap, ex, rfl, hlen⟩ := hl.form
  unfold maxLen at hlen
  refine Cl.enter Try.func5 rfl rfl Try.ntmps5 (by simp) ?_
  refine walk none0 ?_
  refine (New7_ok H).mono fun w H1 _ ⟨ea, k1, hd⟩ => ?_
  subst ea
  have hB := bothD_new (t := 64) k1 hd (Nat.le_refl _)
  refine walk none0 ?_
  refine Wq.loop (fun m e H' => ∃ (i : Nat) (v : AV) (slv : AV) (S L : List EntT), i ≤ 100 ∧ m = 100 - i ∧ e 0 = .slice a l0.length cap ex ∧ e 1 = .str s ∧ e 5 = .ptr (some (H.next, 0)) ∧ e 6 = v ∧ e 7 = .int .i64 i ∧ BothD H H' H.next slv S v L) 100 ?_ ?_
  · exact ⟨0, _, _, _, _, by omega, by omega, by simp, by simp, by simp, by simp, by simp, hB⟩
  · rintro m e H' ⟨i, v, slv, S, L, hi, rfl, g0, g1, g5, g6, g7, hB⟩
    by_cases hlt : i < l0.length
    · have hltI : (i : Int) < l0.length := by omega
      by_cases h100 : i < 100
      · obtain ⟨x, hx⟩ := get_lt' hlt
        have h100I : (i : Int) < 100 := by omega
        obtain ⟨b', o, c, t, w, mk, rfl, hb1, hb2, hb3, hb4, _⟩ := (hl.upd hB.k (fun _ _ h => h)).at hx
        refine walk (both g0 (both g1 (both g5 (both g6 (both g7 (both hltI (both hlt (both h100I (both h100 (both hb2 (both hb3 hb4))))))))))) ?_
        refine (does12_ok hB x.k x.ino x.s).mono fun r H3 _ ⟨S', v', L', slv', ea, hB3⟩ => ?_
        subst ea
        obtain ⟨xa, xc, xx, rfl, hxc, hxx⟩ := hB3.r.form
        have hpl := hB3.pm.length_eq
        refine walk (both g0 (both g1 (both g5 (both g6 g7)))) ?_
        refine (Len11_ok hB3.d).mono fun r H4 _ ⟨ea, eb⟩ => ?_
        subst ea; subst eb
        refine walk (both g0 (both g1 (both g5 (both g6 (both g7 hpl))))) ?_
        exact Roundq.normal (100 - (i + 1)) (by omega) ⟨i + 1, _, slv', S', L', by omega, rfl, by simp [g0], by simp [g1], by simp [g5], by simp, by simp, hB3⟩
      · have h100I : ¬ (i : Int) < 100 := by omega
        refine walk (both g0 (both g1 (both g5 (both g6 (both g7 (both hltI (both hlt (both h100I h100)))))))) ?_
        refine (Find16_ok hB.d s).mono fun r H3 _ ⟨k3, ea⟩ => ?_
        subst ea
        have hB3 := hB.kept k3
        refine walk (both g0 (both g1 (both g5 (both g6 g7)))) ?_
        refine (refFind17_ok hB3.r s).mono fun r H4 _ ⟨ea, eb⟩ => ?_
        subst ea; subst eb
        have hfi := hB3.find s
        have hps := (findT_pos hB3.r.pos (s := s)).1
        generalize findT L s = q at *
        refine walk (both g0 (both g1 (both g5 (both g6 (both g7 hfi))))) ?_
        refine (Names18_ok hB3.d).mono fun r H5 _ hN => ?_
        have hB5 := hB3.kept hN.keep
        refine walk (both g0 (both g1 (both g5 (both g6 (both g7 hfi))))) ?_
        refine (refNames19_ok hB5.r).mono fun r H6 _ ⟨R, hR, hM⟩ => ?_
        have hS : R = S.map Prod.fst := hR.sorted hB5.d.up hB5.pm
        subst hS
        refine walk (both g0 (both g1 (both g5 (both g6 g7)))) ?_
        have hs1 : Ss H6 _ (S.map Prod.fst) := (hN.then hM.keep).own.sl
        have hs2 : Ss H6 _ (S.map Prod.fst) := hM.own.sl
        refine (names_ok hs1 hs2 (by simp; have := hB5.d.few; omega)).mono fun r H7 _ ⟨ea, eb⟩ => ?_
        subst ea; subst eb
        refine walk none0 ?_
        refine (lives_ok _).mono fun r H8 _ ⟨ea, eb⟩ => ?_
        subst ea; subst eb
        refine walk none0 ?_
        rfl
    · have hltI : ¬ (i : Int) < l0.length := by omega
      refine walk (both g0 (both g1 (both g5 (both g6 (both g7 (both hltI hlt)))))) ?_
      refine (Find16_ok hB.d s).mono fun r H3 _ ⟨k3, ea⟩ => ?_
      subst ea
      have hB3 := hB.kept k3
      refine walk (both g0 (both g1 (both g5 (both g6 g7)))) ?_
      refine (refFind17_ok hB3.r s).mono fun r H4 _ ⟨ea, eb⟩ => ?_
      subst ea; subst eb
      have hfi := hB3.find s
      have hps := (findT_pos hB3.r.pos (s := s)).1
      generalize findT L s = q at *
      refine walk (both g0 (both g1 (both g5 (both g6 (both g7 hfi))))) ?_
      refine (Names18_ok hB3.d).mono fun r H5 _ hN => ?_
      have hB5 := hB3.kept hN.keep
      refine walk (both g0 (both g1 (both g5 (both g6 (both g7 hfi))))) ?_
      refine (refNames19_ok hB5.r).mono fun r H6 _ ⟨R, hR, hM⟩ => ?_
      have hS : R = S.map Prod.fst := hR.sorted hB5.d.up hB5.pm
      subst hS
      refine walk (both g0 (both g1 (both g5 (both g6 g7)))) ?_
      have hs1 : Ss H6 _ (S.map Prod.fst) := (hN.then hM.keep).own.sl
      have hs2 : Ss H6 _ (S.map Prod.fst) := hM.own.sl
      refine (names_ok hs1 hs2 (by simp; have := hB5.d.few; omega)).mono fun r H7 _ ⟨ea, eb⟩ => ?_
      subst ea; subst eb
      refine walk none0 ?_
      refine (lives_ok _).mono fun r H8 _ ⟨ea, eb⟩ => ?_
      subst ea; subst eb
      refine walk none0 ?_
      rfl
end Go.Abs

/- Chapter 05: DirsPages. -/
namespace Go.Abs
open Go.Proofs
set_option maxRecDepth 100000
set_option linter.unusedVariables false
set_option linter.unusedSimpArgs false

theorem pageT_few {S : List EntT} (h : S.length ≤ 64) (f n : Int) : (pageT S f n).length ≤ 100000 := by
  unfold pageT
  split
  · simp
  · simp; omega
set_option maxHeartbeats 4000000 in
theorem dirsPages_main (va : AV) (l0 : List ActD) (f n : Int) (hf : f ≤ 9223372036854775807) (H : Heap) (hl : ActsD H va l0) : Cl Try.prog pr05 4 [va, .int .i64 f, .int .i64 n] H fun v _ => v = .bool true := by
  obtain ⟨a, cap, ex, rfl, hlen⟩ := hl.form
  unfold maxLen at hlen
  refine Cl.enter Try.func4 rfl rfl Try.ntmps4 (by simp) ?_
  refine walk none0 ?_
  refine (New7_ok H).mono fun w H1 _ ⟨ea, k1, hd⟩ => ?_
  subst ea
  have hB := bothD_new (t := 64) k1 hd (Nat.le_refl _)
  refine walk none0 ?_
  refine Wq.loop (fun m e H' => ∃ (i : Nat) (v : AV) (slv : AV) (S L : List EntT), i ≤ 100 ∧ m = 100 - i ∧ e 0 = .slice a l0.length cap ex ∧ e 1 = .int .i64 f ∧ e 2 = .int .i64 n ∧ e 7 = .ptr (some (H.next, 0)) ∧ e 8 = v ∧ e 9 = .int .i64 i ∧ BothD H H' H.next slv S v L) 100 ?_ ?_
  · exact ⟨0, _, _, _, _, by omega, by omega, by simp, by simp, by simp, by simp, by simp, by simp, hB⟩
  · rintro m e H' ⟨i, v, slv, S, L, hi, rfl, g0, g1, g2, g7, g8, g9, hB⟩
    by_cases hlt : i < l0.length
    · have hltI : (i : Int) < l0.length := by omega
      by_cases h100 : i < 100
      · obtain ⟨x, hx⟩ := get_lt' hlt
        have h100I : (i : Int) < 100 := by omega
        obtain ⟨b', o, c, t, w, mk, rfl, hb1, hb2, hb3, hb4, _⟩ := (hl.upd hB.k (fun _ _ h => h)).at hx
        refine walk (both g0 (both g1 (both g2 (both g7 (both g8 (both g9 (both hltI (both hlt (both h100I (both h100 (both hb2 (both hb3 hb4)))))))))))) ?_
        refine (does12_ok hB x.k x.ino x.s).mono fun r H3 _ ⟨S', v', L', slv', ea, hB3⟩ => ?_
        subst ea
        obtain ⟨xa, xc, xx, rfl, hxc, hxx⟩ := hB3.r.form
        refine walk (both g0 (both g1 (both g2 (both g7 (both g8 g9))))) ?_
        exact Roundq.normal (100 - (i + 1)) (by omega) ⟨i + 1, _, slv', S', L', by omega, rfl, by simp [g0], by simp [g1], by simp [g2], by simp [g7], by simp, by simp, hB3⟩
      · have h100I : ¬ (i : Int) < 100 := by omega
        refine walk (both g0 (both g1 (both g2 (both g7 (both g8 (both g9 (both hltI (both hlt (both h100I h100))))))))) ?_
        refine (Page14_ok hB.d f n).mono fun r H3 _ hN => ?_
        have hB3 := hB.kept hN.keep
        refine walk (both g0 (both g1 (both g2 (both g7 (both g8 g9))))) ?_
        refine (refPage15_ok hB3.r f n hf).mono fun r H4 _ ⟨R, hR, k4, hs2⟩ => ?_
        have hS : R = S.map Prod.fst := hR.sorted hB3.d.up hB3.pm
        subst hS
        rw [pageR_T] at hs2
        refine walk (both g0 (both g1 (both g2 (both g7 (both g8 g9))))) ?_
        have hs1 : Ss H4 _ (pageT S f n) := (hN.then k4).own.sl
        refine (names_ok hs1 hs2 (pageT_few hB3.d.few f n)).mono fun r H7 _ ⟨ea, eb⟩ => ?_
        subst ea; subst eb
        refine walk none0 ?_
        refine (lives_ok _).mono fun r H8 _ ⟨ea, eb⟩ => ?_
        subst ea; subst eb
        refine walk none0 ?_
        rfl
    · have hltI : ¬ (i : Int) < l0.length := by omega
      refine walk (both g0 (both g1 (both g2 (both g7 (both g8 (both g9 (both hltI hlt))))))) ?_
      refine (Page14_ok hB.d f n).mono fun r H3 _ hN => ?_
      have hB3 := hB.kept hN.keep
      refine walk (both g0 (both g1 (both g2 (both g7 (both g8 g9))))) ?_
      refine (refPage15_ok hB3.r f n hf).mono fun r H4 _ ⟨R, hR, k4, hs2⟩ => ?_
      have hS : R = S.map Prod.fst := hR.sorted hB3.d.up hB3.pm
      subst hS
      rw [pageR_T] at hs2
      refine walk (both g0 (both g1 (both g2 (both g7 (both g8 g9))))) ?_
      have hs1 : Ss H4 _ (pageT S f n) := (hN.then k4).own.sl
      refine (names_ok hs1 hs2 (pageT_few hB3.d.few f n)).mono fun r H7 _ ⟨ea, eb⟩ => ?_
      subst ea; subst eb
      refine walk none0 ?_
      refine (lives_ok _).mono fun r H8 _ ⟨ea, eb⟩ => ?_
      subst ea; subst eb
      refine walk none0 ?_
      rfl
end Go.Abs

/- Chapter 05: DirsFull. -/
namespace Go.Abs
open Go.Proofs
set_option maxRecDepth 100000
set_option linter.unusedVariables false
set_option linter.unusedSimpArgs false

def nmT (s : Nm8) (i : Nat) : Nm8 := s ++ [45] ++ [UInt8.ofNat (97 + i / 26), UInt8.ofNat (97 + i % 26)]
theorem nmT_inj {s : Nm8} {i j : Nat} (hi : i ≤ 255) (hj : j ≤ 255) (h : nmT s i = nmT s j) : i = j := by
  unfold nmT at h
  have h := List.append_cancel_left h
  injection h with h1 h2
  injection h2 with h2 _
  have h1 := congrArg UInt8.toNat h1
  have h2 := congrArg UInt8.toNat h2
  simp at h1 h2
  omega
theorem nmT_len (s : Nm8) (i : Nat) : (nmT s i).length = s.length + 3 := by simp [nmT]
theorem nmT_name {s : Nm8} {i : Nat} (hi : i ≤ 255) (hl : s.length ≤ 20) (h : nameE s = 0) : nameE (nmT s i) = 0 := by
  have hlen := nmT_len s i
  have hany : ¬ Lib.containsAny s [47, 0] = true := by
    intro hc
    simp only [nameE] at h
    by_cases h0 : s = []
    · rw [if_pos h0] at h; simp at h
    · rw [if_neg h0, if_neg (by omega), if_pos (.inr (.inr hc))] at h; simp at h
  have hany' : ¬ Lib.containsAny (nmT s i) [47, 0] = true := by
    intro hc
    obtain ⟨k, x, hk, hx⟩ := (any_spec _).1 hc
    apply hany
    have hm := List.mem_of_getElem? hk
    simp only [nmT, List.mem_append, List.mem_cons, List.not_mem_nil, or_false] at hm
    rcases hm with (hm | hm) | hm | hm
    · obtain ⟨j, hj⟩ := List.getElem?_of_mem hm
      exact (any_spec _).2 ⟨j, x, hj, hx⟩
    · subst hm; simp at hx
    · exfalso
      have h1 := congrArg UInt8.toNat hm
      simp at h1
      rcases hx with rfl | rfl <;> simp at h1 <;> omega
    · exfalso
      have h1 := congrArg UInt8.toNat hm
      simp at h1
      rcases hx with rfl | rfl <;> simp at h1 <;> omega
  have n0 : nmT s i ≠ [] := fun e => by rw [e] at hlen; simp at hlen
  have n1 : nmT s i ≠ [46] := fun e => by rw [e] at hlen; simp at hlen
  have n2 : nmT s i ≠ [46, 46] := fun e => by rw [e] at hlen; simp at hlen
  simp only [nameE]
  rw [if_neg n0, if_neg (by omega), if_neg (by simp [n1, n2, hany'])]
theorem nmT_eq (s : Nm8) {i : Nat} (hi : i ≤ 255) : s ++ [45, UInt8.ofNat (IntKind.u8.wrap (97 + IntKind.u8.wrap ((i : Int) / 26))).toNat, UInt8.ofNat (IntKind.u8.wrap (97 + IntKind.u8.wrap ((i : Int) % 26))).toNat] = nmT s i := by
  have e1 : IntKind.u8.wrap (97 + IntKind.u8.wrap ((i : Int) / 26)) = 97 + (i : Int) / 26 := by
    have h1 : 0 ≤ (i : Int) / 26 ∧ (i : Int) / 26 ≤ 9 := by omega
    have h2 : 0 ≤ (i : Int) % 26 ∧ (i : Int) % 26 ≤ 25 := by omega
    rw [wrapU8 (a := (i : Int) / 26) (by omega), wrapU8 (by omega)]
  have e2 : IntKind.u8.wrap (97 + IntKind.u8.wrap ((i : Int) % 26)) = 97 + (i : Int) % 26 := by
    have h2 : 0 ≤ (i : Int) % 26 ∧ (i : Int) % 26 ≤ 25 := by omega
    rw [wrapU8 (a := (i : Int) % 26) (by omega), wrapU8 (by omega)]
  have d1 : (97 + (i : Int) / 26).toNat = 97 + i / 26 := by omega
  have d2 : (97 + (i : Int) % 26).toNat = 97 + i % 26 := by omega
  rw [e1, e2, d1, d2]
  simp [nmT]
structure FullD (H : Heap) (p : Nat) (slv : AV) (S : List EntT) (s : Nm8) (i : Nat) : Prop where
  d : DirR H p slv S
  len : S.length = min i 64
  nm : ∀ x ∈ S, ∃ j, j < i ∧ x.1 = nmT s j
theorem FullD.err {H : Heap} {p : Nat} {slv : AV} {S : List EntT} {s : Nm8} {i : Nat} (h : FullD H p slv S s i) (hi : i ≤ 255) (hl : s.length ≤ 20) (hn : nameE s = 0) : addE S (nmT s i) ((i : Int) + 1) = if i < 64 then 0 else 28 := by
  have hlen := h.len
  have hf : findT S (nmT s i) = 0 := findT_no fun x hx e => by
    obtain ⟨j, hj, e'⟩ := h.nm x hx
    have := nmT_inj (by omega) hi (e'.symm.trans e)
    omega
  unfold addE
  rw [nmT_name hi hl hn, if_neg (by simp), if_neg (by omega), hf, if_neg (by omega)]
  by_cases h64 : i < 64
  · rw [if_pos h64, if_neg (by omega)]
  · rw [if_neg h64, if_pos (by omega)]
theorem FullD.add {H H' : Heap} {p : Nat} {slv : AV} {S S' : List EntT} {s : Nm8} {i : Nat} (h : FullD H p slv S s i) (hi : i ≤ 255) (hl : s.length ≤ 20) (hn : nameE s = 0) (ha : AddS S (nmT s i) ((i : Int) + 1) S') (hr : ActR H p slv S' H') : ∃ slv', FullD H' p slv' S' s (i + 1) := by
  have he := h.err hi hl hn
  have hlen := h.len
  obtain ⟨slv', _, hd, _⟩ := hr
  refine ⟨slv', hd, ?_, ?_⟩
  · rcases ha with ⟨h1, rfl⟩ | ⟨h1, k, _, _, rfl⟩
    · rw [he] at h1
      have : ¬ i < 64 := fun q => h1 (if_pos q)
      omega
    · rw [he] at h1
      have : i < 64 := by
        rcases Nat.lt_or_ge i 64 with q | q
        · exact q
        · rw [if_neg (by omega)] at h1; simp at h1
      rw [(perm_ins).length_eq, List.length_cons]
      omega
  · intro x hx
    rcases ha with ⟨h1, rfl⟩ | ⟨h1, k, _, _, rfl⟩
    · obtain ⟨j, hj, e⟩ := h.nm x hx
      exact ⟨j, by omega, e⟩
    · rcases List.mem_cons.1 ((perm_ins).mem_iff.1 hx) with rfl | hx
      · exact ⟨i, by omega, rfl⟩
      · obtain ⟨j, hj, e⟩ := h.nm x hx
        exact ⟨j, by omega, e⟩

set_option maxHeartbeats 4000000 in
theorem dirsFull_main (s : Nm8) (many : Int) (h0 : 0 ≤ many ∧ many ≤ 255) (H : Heap) : Cl Try.prog pr05 3 [.str s, .int .u8 many] H fun v _ => v = .bool true := by
  obtain ⟨n, rfl⟩ : ∃ n : Nat, many = n := ⟨many.toNat, by omega⟩
  have hn : n ≤ 255 := by omega
  refine Cl.enter Try.func3 rfl rfl Try.ntmps3 (by simp) ?_
  refine walk none0 ?_
  refine (New7_ok H).mono fun w H1 _ ⟨ea, k1, hd⟩ => ?_
  subst ea
  by_cases hl : s.length ≤ 20
  · have hlI : ¬ (20 : Int) < s.length := by omega
    refine walk hlI ?_
    refine (refName_ok s (by omega) _).mono fun w H1 _ ⟨ea, eb⟩ => ?_
    subst ea; subst eb
    by_cases hnm : nameE s = 0
    · refine walk (both hlI hnm) ?_
      refine Wq.loop (fun m e H' => ∃ (i : Nat) (slv : AV) (S : List EntT), i ≤ n ∧ m = n - i ∧ e 0 = .str s ∧ e 1 = .int .u8 n ∧ e 5 = .ptr (some (H.next, 0)) ∧ e 6 = .int .i64 i ∧ FullD H' H.next slv S s i) n ?_ ?_
      · exact ⟨0, _, _, by omega, by omega, by simp, by simp, by simp, by simp, ⟨hd, by simp, by simp⟩⟩
      · rintro m e H' ⟨i, slv, S, hi, rfl, g0, g1, g5, g6, hF⟩
        by_cases hlt : i < n
        · have hltI : (i : Int) < n := by omega
          have hw := nmT_eq s (by omega : i ≤ 255)
          have he := hF.err (by omega) hl hnm
          refine walk (both g0 (both g1 (both g5 (both g6 (both hltI hlt))))) ?_
          rw [hw]
          have hF1 : FullD _ H.next slv S s i := ⟨hF.d.kept (Upd.rfl.push (.cells [.int .u8 (IntKind.u8.wrap (97 + IntKind.u8.wrap ((i : Int) / 26))), .int .u8 (IntKind.u8.wrap (97 + IntKind.u8.wrap ((i : Int) % 26)))] 5 true false)), hF.len, hF.nm⟩
          refine (Add10_ok hF1.d (nmT s i) (by rw [nmT_len]; omega) ((i : Int) + 1)).mono fun r H2 _ ⟨S', ea, ha, hr⟩ => ?_
          subst ea
          obtain ⟨slv', hF2⟩ := hF1.add (by omega) hl hnm ha hr
          rw [he]
          by_cases h64 : i < 64
          · rw [if_pos h64]
            have h64I : (i : Int) < 64 := by omega
            have h64J : ¬ (63 : Int) < i := by omega
            refine walk (both g0 (both g1 (both g5 (both g6 (both h64I h64J))))) ?_
            exact Roundq.normal (n - (i + 1)) (by omega) ⟨i + 1, slv', S', by omega, rfl, by simp [g0], by simp [g1], by simp [g5], by simp, hF2⟩
          · rw [if_neg h64]
            have h64I : ¬ (i : Int) < 64 := by omega
            have h64J : (63 : Int) < i := by omega
            refine walk (both g0 (both g1 (both g5 (both g6 (both h64I h64J))))) ?_
            exact Roundq.normal (n - (i + 1)) (by omega) ⟨i + 1, slv', S', by omega, rfl, by simp [g0], by simp [g1], by simp [g5], by simp, hF2⟩
        · have hltI : ¬ (i : Int) < n := by omega
          have hlen := hF.len
          obtain rfl : i = n := by omega
          by_cases h64 : 64 < i
          · have h64I : (64 : Int) < i := by omega
            rw [Nat.min_eq_right (by omega)] at hlen
            refine walk (both g0 (both g1 (both g5 (both g6 (both hltI (both hlt h64I)))))) ?_
            refine (Len11_ok hF.d).mono fun r H4 _ ⟨ea, eb⟩ => ?_
            subst ea; subst eb
            refine walk hlen ?_
            refine (lives_ok _).mono fun r H8 _ ⟨ea, eb⟩ => ?_
            subst ea; subst eb
            refine walk none0 ?_
            rfl
          · have h64I : ¬ (64 : Int) < i := by omega
            rw [Nat.min_eq_left (by omega)] at hlen
            refine walk (both g0 (both g1 (both g5 (both g6 (both hltI (both hlt h64I)))))) ?_
            refine (Len11_ok hF.d).mono fun r H4 _ ⟨ea, eb⟩ => ?_
            subst ea; subst eb
            refine walk hlen ?_
            refine (lives_ok _).mono fun r H8 _ ⟨ea, eb⟩ => ?_
            subst ea; subst eb
            refine walk none0 ?_
            rfl
    · refine walk (both hlI hnm) ?_
      refine (lives_ok _).mono fun r H8 _ ⟨ea, eb⟩ => ?_
      subst ea; subst eb
      refine walk none0 ?_
      rfl
  · have hlI : (20 : Int) < s.length := by omega
    refine walk hlI ?_
    refine (lives_ok _).mono fun r H8 _ ⟨ea, eb⟩ => ?_
    subst ea; subst eb
    refine walk none0 ?_
    rfl
end Go.Abs

/- The seat's own facts for its rows. -/
namespace Go.Proofs.Ytflbhhfdogpklaa
open Go.ChangeShapes Go.WideShapes Go.ChangeAt Go.RowKit Go.Abs
set_option linter.unusedVariables false
set_option maxRecDepth 100000

theorem own : ownKnob Try.prog.godebug = none := by kernel_rfl
theorem laidOut : laidOutB Try.prog = true := by kernel_rfl
theorem mixed : Try.prog.follows .mixedOrders = true := by kernel_rfl
theorem plainN : plainNames Try.prog = true := by kernel_rfl
theorem baseOk : PrimsOk Try.prog base05 := orPrims_ok insPrims_ok (orPrims_ok (bodyPrims_ok (by intro p hp; simp at hp; subst hp; exact Try.says30)) (extPrims_ok (by intro p hp; simp at hp; subst hp; exact Try.says43)))
theorem baseRl : PrimsRl base05 := orPrims_rl insPrims_rl (orPrims_rl (extPrims_rl _) (extPrims_rl _))
theorem run9 : ((acall Try.prog base05 40 9 [] (Heap.start Try.prog.globals.size)).map fun r => sameAV r.1 (.bool true)) = some true := by kernel_rfl
theorem runs9 : ∃ n H', acall Try.prog base05 n 9 [] (Heap.start Try.prog.globals.size) = some (.bool true, H') := runs_on run9
theorem primsOk : PrimsOk Try.prog pr05 := by
  refine orPrims_ok (closedPrims_on mixed plainN baseOk fun p hp => ?_) baseOk
  simp at hp
  subst hp
  exact ⟨rfl, runs9⟩
theorem primsRl : PrimsRl pr05 := orPrims_rl (closedPrims_rl _) baseRl
end Go.Proofs.Ytflbhhfdogpklaa

/- DirsFull: the row. -/
namespace Go.Proofs.Ytflbhhfdogpklaa
open Go.ChangeShapes Go.WideShapes Go.ChangeAt Go.RowKit Go.Abs
set_option linter.unusedVariables false
set_option maxRecDepth 100000

theorem dirsFullMain (H : Heap) (xs : List AV) (hG : Try.prog.globals.size ≤ H.next) (hw : Wf H) (h : PicAll Try.prog H 3 [9, 5] xs) : CallsA Try.prog pr05 3 xs H fun v _ => v = .bool true := by
  obtain ⟨a0, r0, rfl, h0, a1, r1, rfl, h1, hend⟩ := h
  obtain rfl : r1 = [] := hend
  refine Cl.callsA primsRl hw ?_
  obtain ⟨s, rfl, _⟩ := picV_str Try.underlying9 h0
  obtain ⟨z, rfl, w, w'⟩ := picV_u8 Try.underlying5 h1
  exact dirsFull_main s z ⟨w, w'⟩ H

theorem dirsFullLifted (os : Os) (started : os.Started) (H : Type) (enc : TypeId × Value → H) :
    ReturnsInHanded {} Try.checked os 3 .any (Rows.dirsFullSpec.pre6 enc Try.prog Try.f3 Rows.dirsFullRow.domain false) (Rows.dirsFullSpec.post enc Try.prog Try.f3 false true false false) := by
  refine returnsInHanded_of_change (C := Try.checked) own started (by kernel_rfl) Try.func3
    (ChangeSpec.witness6 (enc := enc) (C := Try.checked) false ⟨#[], #[.string ⟨#[]⟩, .int .u8 0], []⟩ 8 (by kernel_rfl) (by kernel_rfl) (by kernel_rfl) (by kernel_rfl)) ?_
  intro W base args ds gs before hval hW hcnd _
  have ep : Try.f3.params.toList = [9, 5] := by kernel_rfl
  refine law_post laidOut rfl (fun ds h => ?_) (tb := 4) (by kernel_rfl) Try.underlying4 ?_ hW (fun p hA => ?_)
  · rw [ep] at h
    match ds, h with
    | [a0, a1], _ => rfl
  · rw [ep]
    intro t ht
    simp at ht
    rcases ht with rfl | rfl <;> exact ⟨by kernel_rfl, of_decide_eq_true (by kernel_rfl)⟩
  · refine law_calls primsOk mixed plainN Try.func3 rfl (n := 3) (base := base) (ts := Try.f3.params.toList) ?_ ?_ ?_ hA
    · rw [ep]
      intro t ht
      simp at ht
      rcases ht with rfl | rfl <;> kernel_rfl
    · rw [ep]
      exact dirsFullMain
    · intro j t v h1 h2
      exact hval j t v (by simpa using h1) (by simpa using h2)

theorem dirsFull : Rows.DirsFullSaid :=
  OpenClaim.holds_of_wide 3 Try.f3 rfl rfl rfl rfl rfl rfl rfl ⟨rfl, rfl, rfl, rfl, rfl⟩ rfl rfl rfl rfl rfl (by kernel_rfl) Try.func3 (by kernel_rfl)
    (of_decide_eq_true (by kernel_rfl)) (by unfold Func.isWrapper; first | (rw [if_pos (by decide +kernel)]; kernel_rfl) | (rw [if_neg (by decide +kernel)]; exact ⟨rfl, rfl⟩))
    (fun os started H enc _ => dirsFullLifted os started H enc)
-- #print axioms dirsFull
end Go.Proofs.Ytflbhhfdogpklaa
