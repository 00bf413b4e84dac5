/- Texts on this program, joined. -/
import Derived.Test.YtbklaolbfpiamaaOwn09
import Derived.Test.YtbklaolbfpiamaaKit04
import Derived.Test.YtbklaolbfpiamaaRows
import Derived.WalkKit
import Derived.ProofKit
import Derived.OpenShut
import Derived.ShutString
import Derived.ChangeOld
import Derived.Below

/- Chapter 10: QueueActs. -/
namespace Go.Abs
open Go.Proofs
set_option maxRecDepth 100000
set_option linter.unusedVariables false
set_option linter.unusedSimpArgs false

set_option maxHeartbeats 4000000 in
theorem queueActs_main (z : Int) (va : AV) (l : List QAct) (H : Heap) (hz0 : 0 ≤ z) (hz : z ≤ 255) (hl : List0 qactS H (fun b => b < H.next) va l) :
    Cl Try.prog pr10 5 [.int .u8 z, va] H fun v _ => v = .bool true := by
  obtain ⟨a, cap, ex, rfl, k1, m1, n1⟩ := hl.form
  unfold maxLen at n1
  have hN : 1 ≤ 1 + z % 200 ∧ 1 + z % 200 ≤ 4096 := by omega
  have hmod : z.tmod 200 = z % 200 := Int.tmod_eq_emod_of_nonneg hz0
  refine Cl.enter Try.func5 rfl rfl Try.ntmps5 (by simp) ?_
  refine walk hmod ?_
  refine Cl.wfK ((new_yes (1 + z % 200) hN _).mono fun v H1 hn1 ⟨e, hk, hQ⟩ hw1 => ?_)
  subst e
  generalize 1 + z % 200 = N at *
  refine walk none0 ?_
  have hk0 := hk.next
  have hplt := hw1.lt hQ.q
  refine Wq.loop (fun m e H' => ∃ (i : Nat) (slv lv : AV) (ql : List Part), i ≤ 60 ∧ m = 60 - i ∧ e 1 = .slice a l.length cap ex ∧ e 5 = .int .i64 N ∧ e 6 = .ptr (some (H.next, 0)) ∧ e 7 = lv ∧ e 8 = .int .i64 i ∧
    Upd (fun z => H.next ≤ z) H H' ∧ (∀ z, slBlock slv = some z → H.next ≤ z) ∧ Two H' H.next slv lv ql N) 60 ?_ ?_
  · refine ⟨0, .slice none 0 0 none, .slice (some (H1.next, 0)) 0 0 none, [], by omega, by omega, by simp, by simp, by simp, by simp, by simp, (Upd.of hk).push _, by simp [slBlock], (hQ.kept (Upd.rfl.push _) hplt).max, ?_, by simp; omega⟩
    refine List0.mk (c := []) ?_ (fun z hz h0 => by simp at h0) (by simp) Rows.nil
    exact (OwnG.empty (elem := 38) _).sl
  · rintro m e H' ⟨i, slv, lv, ql, hi, rfl, g1, g5, g6, g7, g8, hU, hsl, hT⟩
    have hfin : ∀ H2, Cl Try.prog pr10 12 [] H2 fun v H3 => v = .bool true ∧ H3 = H2 := fun H2 => Cl.prim (v := .bool true) (H' := H2) rfl rfl ⟨rfl, rfl⟩
    by_cases hlt : i < l.length
    · by_cases h60 : i < 60
      · obtain ⟨x, hx⟩ := get_lt hlt
        have hl' := hl.upd hU fun z hz => by omega
        obtain ⟨b, o, d, t1, w1, mk1, cs1, rfl, hokb, hb1, hg1, hf1, hd1, hr1⟩ := hl'.at hx
        obtain ⟨vb, rfl, hvb, hxn, hxm⟩ := qact_open hr1
        simp only [qactS_s] at hf1 hd1
        refine walk (both g1 (both g5 (both g6 (both g7 (both g8 (both hlt (both h60 (both hg1 hd1)))))))) ?_
        have h10 : (10 : Int) * i ≤ 10000 := by omega
        refine Cl.wfK ((does_ok (a := x) hT (10 * i) (by omega) h10 hvb (fun z hz => ⟨by have := hU.next; omega, by omega, fun e => by have := hsl z e; omega⟩) hxn hxm).mono fun w H2 hn2 ⟨lv', pv, slv', ls, e2, hu2, hf2, hT2⟩ hw2 => ?_)
        subst e2
        refine walk g6 ?_
        refine Cl.wfK ((dump_ok hT2.q).mono fun w H3 hn3 ⟨c, hF3, hlt3, hR3⟩ hw3 => ?_)
        obtain ⟨wa, wc, wx, rfl, _⟩ := hF3.own.form
        have hT3 := hT2.kept hF3.keep
        have hmany := hT2.q.many
        have hfit := hT2.q.fits
        refine walk g6 ?_
        refine (sameP_ok (hF3.own.list0 (S := partS) hR3 (by omega)) hT3.r hT3.q.ne hT3.q.ne).mono fun w H4 hn4 ⟨⟨t, e4, ht⟩, hk4⟩ => ?_
        obtain rfl : t = true := ht.2 rfl
        subst e4
        have hT4 := hT3.kept hk4
        refine walk g6 ?_
        refine (len_some hT4.q).mono fun v H5 _ ⟨e5, e6⟩ => ?_
        subst e5; subst e6
        refine walk g6 ?_
        refine (lenP_ok hT4.r (by omega)).mono fun v H6 _ ⟨e5, e6⟩ => ?_
        subst e5; subst e6
        refine walk g6 ?_
        refine (room_some hT4.q).mono fun v H5 _ ⟨e5, e6⟩ => ?_
        subst e5; subst e6
        refine walk (both g5 g6) ?_
        refine (lenP_ok hT4.r (by omega)).mono fun v H6 _ ⟨e5, e6⟩ => ?_
        subst e5; subst e6
        refine walk (both g5 (both g6 g8)) ?_
        refine Roundq.normal (60 - (i + 1)) (by omega) ⟨i + 1, slv', lv', _, by omega, rfl, by simp [g1], by simp [g5], by simp [g6], by simp, by simp, ((hU.trans hu2 fun z hz h' => ?_).then hF3.keep).then hk4, fun z hz => ?_, hT4⟩
        · rcases h' with h' | h'
          · omega
          · exact hsl z h'
        · rcases hf2 z hz with h' | h'
          · exact hsl z h'
          · have := hU.next; omega
      · refine walk (both g1 (both g5 (both g6 (both g7 (both g8 (both hlt h60)))))) ?_
        refine (hfin H').mono fun v H3 _ ⟨e1, e2⟩ => ?_
        subst e1; subst e2
        refine walk g1 ?_
        exact rfl
    · refine walk (both g1 (both g5 (both g6 (both g7 (both g8 hlt))))) ?_
      refine (hfin H').mono fun v H3 _ ⟨e1, e2⟩ => ?_
      subst e1; subst e2
      refine walk g1 ?_
      exact rfl
end Go.Abs

/- The seat's own facts for its rows. -/
namespace Go.Proofs.Ytbklaolbfpiamaa
open Go.ChangeShapes Go.WideShapes Go.ChangeAt Go.RowKit Go.Abs
set_option linter.unusedVariables false
set_option maxRecDepth 100000

theorem own : ownKnob Try.prog.godebug = none := by kernel_rfl
theorem laidOut : laidOutB Try.prog = true := by kernel_rfl
theorem mixed : Try.prog.follows .mixedOrders = true := by kernel_rfl
theorem plainN : plainNames Try.prog = true := by kernel_rfl
theorem run12 : ((acall Try.prog noPrims 40 12 [] (Heap.start Try.prog.globals.size)).map fun r => sameAV r.1 (.bool true)) = some true := by kernel_rfl
theorem runs12 : ∃ n H', acall Try.prog noPrims n 12 [] (Heap.start Try.prog.globals.size) = some (.bool true, H') := runs_of run12
theorem primsOk : PrimsOk Try.prog pr10 := by
  refine closedPrims_ok mixed plainN fun p hp => ?_
  simp at hp
  subst hp
  exact ⟨rfl, runs12⟩
theorem primsRl : PrimsRl pr10 := closedPrims_rl _
end Go.Proofs.Ytbklaolbfpiamaa

/- QueueNews: the row. -/
namespace Go.Proofs.Ytbklaolbfpiamaa
open Go.ChangeShapes Go.WideShapes Go.ChangeAt Go.RowKit Go.Abs
set_option linter.unusedVariables false
set_option maxRecDepth 100000

theorem queueNewsMain (H : Heap) (xs : List AV) (hG : Try.prog.globals.size ≤ H.next) (hw : Wf H) (h : PicAll Try.prog H 3 [3, 27] xs) : CallsA Try.prog pr10 6 xs H fun v _ => v = .bool true := by
  obtain ⟨a0, r0, rfl, h0, a1, r1, rfl, h1, hend⟩ := h
  obtain rfl : r1 = [] := hend
  refine Cl.callsA primsRl hw ?_
  obtain ⟨z0, rfl, w0, w0'⟩ := picV_i64 Try.underlying3 h0
  unfold PicV at h1
  simp only [Try.underlying27] at h1
  obtain ⟨cs, rfl, hc⟩ := h1
  obtain ⟨x, hx⟩ := qact_of hc
  obtain ⟨v, rfl, ⟨v', e, hS, _⟩, _⟩ := qact_open hx
  injection e with e _
  subst e
  obtain ⟨a, c, ex, rfl, _⟩ := hS.form
  exact queueNews_main _ _ _ _ _ H w0 w0' ⟨_, _, _, _, rfl⟩

theorem queueNewsLifted (os : Os) (started : os.Started) (H : Type) (enc : TypeId × Value → H) :
    ReturnsInHanded {} Try.checked os 6 .any (Rows.queueNewsSpec.pre6 enc Try.prog Try.f6 Rows.queueNewsRow.domain false) (Rows.queueNewsSpec.post enc Try.prog Try.f6 false true false false) := by
  refine returnsInHanded_of_change (C := Try.checked) own started (by kernel_rfl) Try.func6
    (ChangeSpec.witness6 (enc := enc) (C := Try.checked) false ⟨#[], #[.int .i64 0, .agg #[.int .i64 0, .slice none 0 0, .int .i64 0, .int .i64 0]], []⟩ 8 (by kernel_rfl) (by kernel_rfl) (by kernel_rfl) (by kernel_rfl)) ?_
  intro W base args ds gs before hval hW hcnd _
  have ep : Try.f6.params.toList = [3, 27] := by kernel_rfl
  refine law_post laidOut rfl (fun ds h => ?_) (tb := 4) (by kernel_rfl) Try.underlying4 ?_ hW (fun p hA => ?_)
  · rw [ep] at h
    match ds, h with
    | [a0, a1], _ => rfl
  · rw [ep]
    intro t ht
    simp at ht
    rcases ht with rfl | rfl <;> exact ⟨by kernel_rfl, of_decide_eq_true (by kernel_rfl)⟩
  · refine law_calls primsOk mixed plainN Try.func6 rfl (n := 3) (base := base) (ts := Try.f6.params.toList) ?_ ?_ ?_ hA
    · rw [ep]
      intro t ht
      simp at ht
      rcases ht with rfl | rfl <;> kernel_rfl
    · rw [ep]
      exact queueNewsMain
    · intro j t v h1 h2
      exact hval j t v (by simpa using h1) (by simpa using h2)

theorem queueNews : Rows.QueueNewsSaid :=
  OpenClaim.holds_of_wide 6 Try.f6 rfl rfl rfl rfl rfl rfl rfl ⟨rfl, rfl, rfl, rfl, rfl⟩ rfl rfl rfl rfl rfl (by kernel_rfl) Try.func6 (by kernel_rfl)
    (of_decide_eq_true (by kernel_rfl)) (by unfold Func.isWrapper; first | (rw [if_pos (by decide +kernel)]; kernel_rfl) | (rw [if_neg (by decide +kernel)]; exact ⟨rfl, rfl⟩))
    (fun os started H enc _ => queueNewsLifted os started H enc)
-- #print axioms queueNews
end Go.Proofs.Ytbklaolbfpiamaa
