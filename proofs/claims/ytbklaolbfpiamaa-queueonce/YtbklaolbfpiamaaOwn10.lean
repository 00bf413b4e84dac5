/- Texts on this program, joined. -/
import Derived.Test.YtbklaolbfpiamaaOwn09

/- Chapter 10: QueueActs. -/
namespace Go.Abs
open Go.Proofs
set_option maxRecDepth 100000
set_option linter.unusedVariables false
set_option linter.unusedSimpArgs false

set_option maxHeartbeats 4000000 in
theorem queueActs_main (z : Int) (va : AV) (l : List QAct) (H : Heap) (hz0 : 0 ≤ z) (hz : z ≤ 255) (hl : List0 qactS H (fun b => b < H.next) va l) :
    Cl Try.prog pr10 5 [.int .u8 z, va] H fun v _ => v = .bool true := by
  obtain ⟨a, cap, ex, rfl, k1, m1, n1⟩ := hl.form
  unfold maxLen at n1
  have hN : 1 ≤ 1 + z % 200 ∧ 1 + z % 200 ≤ 4096 := by omega
  have hmod : z.tmod 200 = z % 200 := Int.tmod_eq_emod_of_nonneg hz0
  refine Cl.enter Try.func5 rfl rfl Try.ntmps5 (by simp) ?_
  refine walk hmod ?_
  refine Cl.wfK ((new_yes (1 + z % 200) hN _).mono fun v H1 hn1 ⟨e, hk, hQ⟩ hw1 => ?_)
  subst e
  generalize 1 + z % 200 = N at *
  refine walk none0 ?_
  have hk0 := hk.next
  have hplt := hw1.lt hQ.q
  refine Wq.loop (fun m e H' => ∃ (i : Nat) (slv lv : AV) (ql : List Part), i ≤ 60 ∧ m = 60 - i ∧ e 1 = .slice a l.length cap ex ∧ e 5 = .int .i64 N ∧ e 6 = .ptr (some (H.next, 0)) ∧ e 7 = lv ∧ e 8 = .int .i64 i ∧
    Upd (fun z => H.next ≤ z) H H' ∧ (∀ z, slBlock slv = some z → H.next ≤ z) ∧ Two H' H.next slv lv ql N) 60 ?_ ?_
  · refine ⟨0, .slice none 0 0 none, .slice (some (H1.next, 0)) 0 0 none, [], by omega, by omega, by simp, by simp, by simp, by simp, by simp, (Upd.of hk).push _, by simp [slBlock], (hQ.kept (Upd.rfl.push _) hplt).max, ?_, by simp; omega⟩
    refine List0.mk (c := []) ?_ (fun z hz h0 => by simp at h0) (by simp) Rows.nil
    exact (OwnG.empty (elem := 38) _).sl
  · rintro m e H' ⟨i, slv, lv, ql, hi, rfl, g1, g5, g6, g7, g8, hU, hsl, hT⟩
    have hfin : ∀ H2, Cl Try.prog pr10 12 [] H2 fun v H3 => v = .bool true ∧ H3 = H2 := fun H2 => Cl.prim (v := .bool true) (H' := H2) rfl rfl ⟨rfl, rfl⟩
    by_cases hlt : i < l.length
    · by_cases h60 : i < 60
      · obtain ⟨x, hx⟩ := get_lt hlt
        have hl' := hl.upd hU fun z hz => by omega
        obtain ⟨b, o, d, t1, w1, mk1, cs1, rfl, hokb, hb1, hg1, hf1, hd1, hr1⟩ := hl'.at hx
        obtain ⟨vb, rfl, hvb, hxn, hxm⟩ := qact_open hr1
        simp only [qactS_s] at hf1 hd1
        refine walk (both g1 (both g5 (both g6 (both g7 (both g8 (both hlt (both h60 (both hg1 hd1)))))))) ?_
        have h10 : (10 : Int) * i ≤ 10000 := by omega
        refine Cl.wfK ((does_ok (a := x) hT (10 * i) (by omega) h10 hvb (fun z hz => ⟨by have := hU.next; omega, by omega, fun e => by have := hsl z e; omega⟩) hxn hxm).mono fun w H2 hn2 ⟨lv', pv, slv', ls, e2, hu2, hf2, hT2⟩ hw2 => ?_)
        subst e2
        refine walk g6 ?_
        refine Cl.wfK ((dump_ok hT2.q).mono fun w H3 hn3 ⟨c, hF3, hlt3, hR3⟩ hw3 => ?_)
        obtain ⟨wa, wc, wx, rfl, _⟩ := hF3.own.form
        have hT3 := hT2.kept hF3.keep
        have hmany := hT2.q.many
        have hfit := hT2.q.fits
        refine walk g6 ?_
        refine (sameP_ok (hF3.own.list0 (S := partS) hR3 (by omega)) hT3.r hT3.q.ne hT3.q.ne).mono fun w H4 hn4 ⟨⟨t, e4, ht⟩, hk4⟩ => ?_
        obtain rfl : t = true := ht.2 rfl
        subst e4
        have hT4 := hT3.kept hk4
        refine walk g6 ?_
        refine (len_some hT4.q).mono fun v H5 _ ⟨e5, e6⟩ => ?_
        subst e5; subst e6
        refine walk g6 ?_
        refine (lenP_ok hT4.r (by omega)).mono fun v H6 _ ⟨e5, e6⟩ => ?_
        subst e5; subst e6
        refine walk g6 ?_
        refine (room_some hT4.q).mono fun v H5 _ ⟨e5, e6⟩ => ?_
        subst e5; subst e6
        refine walk (both g5 g6) ?_
        refine (lenP_ok hT4.r (by omega)).mono fun v H6 _ ⟨e5, e6⟩ => ?_
        subst e5; subst e6
        refine walk (both g5 (both g6 g8)) ?_
        refine Roundq.normal (60 - (i + 1)) (by omega) ⟨i + 1, slv', lv', _, by omega, rfl, by simp [g1], by simp [g5], by simp [g6], by simp, by simp, ((hU.trans hu2 fun z hz h' => ?_).then hF3.keep).then hk4, fun z hz => ?_, hT4⟩
        · rcases h' with h' | h'
          · omega
          · exact hsl z h'
        · rcases hf2 z hz with h' | h'
          · exact hsl z h'
          · have := hU.next; omega
      · refine walk (both g1 (both g5 (both g6 (both g7 (both g8 (both hlt h60)))))) ?_
        refine (hfin H').mono fun v H3 _ ⟨e1, e2⟩ => ?_
        subst e1; subst e2
        refine walk g1 ?_
        exact rfl
    · refine walk (both g1 (both g5 (both g6 (both g7 (both g8 hlt))))) ?_
      refine (hfin H').mono fun v H3 _ ⟨e1, e2⟩ => ?_
      subst e1; subst e2
      refine walk g1 ?_
      exact rfl
end Go.Abs
