/- Chapter 04: how many blocks are needed where there is no file. -/
import Derived.Test.YtpcchlcbmhmopaaS04Spans
import Derived.Test.YtpcchlcbmhmopaaS04Nil
import Derived.Test.YtpcchlcbmhmopaaAbRead
namespace Go.Abs
open Go.Proofs
set_option maxRecDepth 100000
set_option linter.unusedVariables false
set_option linter.unusedSimpArgs false
attribute [local simp] ev_tmp ev_const ofConst ofBasic setE_eq argEnv resultsA tupled tab_at opR_move opR_assign mvR_some opR_pick pickR_eq opR_bin binR_add binR_sub binR_mul binR_quo binR_rem binR_eql binR_neq binR_lss binR_leq binR_gtr binR_geq
  binR_nilnil_p binR_nilnil_pn binR_ptrnil binR_ptrniln binR_slnil binR_slniln binR_mapnil binR_mapniln opR_un unR_not opR_extract extractR_eq opR_nilCheck nilCheckR_eq opR_fieldAddr fieldAddrR_eq opR_load loadR_ptr opR_store storeR_ptr opR_box boxR_some opR_build buildR_eq opR_buildSlice buildSliceR_eq
  opR_indexAddr indexAddrR_slice indexAddrR_array opR_builtin len_slice len_mapnil min_two max_two mapOpt evParts firstT buildA buildSliceA fillA fieldPlaces zeros AV.cells writeAt Sm.run readVar writeCells Heap.get_push Heap.get_set opR_alloc AV.one

theorem spanCells_len (l : List (Int × Int × Int)) : (spanCells l).length = l.length * 3 := by
  induction l with
  | nil => rfl
  | cons x l ih => simp only [spanCells, List.flatMap_cons, List.length_append, List.length_cons, List.length_nil] at *; omega

theorem spanCells_get : ∀ (l : List (Int × Int × Int)) (j : Nat) (x : Int × Int × Int), l[j]? = some x → ((spanCells l).drop (j * 3)).take 3 = [.int .i64 x.1, .int .i64 x.2.1, .int .i64 x.2.2]
  | [], j, x, h => by simp at h
  | y :: l, 0, x, h => by simp at h; subst h; simp [spanCells]
  | y :: l, j + 1, x, h => by
    have e : (j + 1) * 3 = j * 3 + 1 + 1 + 1 := by omega
    rw [e]
    have := spanCells_get l j x (by simpa using h)
    simpa [spanCells] using this

def needN (off n : Int) : Int := if off < 0 ∨ n < 1 ∨ off > 65536 ∨ n > 65536 - off then 0 else (spans off n).length

theorem spansL_len : ∀ (k : Nat) (off n : Int), (spansL k off n).length ≤ k
  | 0, off, n => Nat.le_refl _
  | k + 1, off, n => by
    unfold spansL
    split
    · simp
    · have := spansL_len k (off + min n (64 - off % 64)) (n - min n (64 - off % 64))
      simp only [List.length_cons]; omega

theorem hext_pushset {H0 H : Heap} (h : HExt H0 H) (o o' : AObj) : HExt H0 ((H.push o).set H.next o') := by
  have h1 := h.1
  exact ⟨by simp; omega, fun b hb => by rw [Heap.get_set, if_neg (by omega), Heap.get_push, if_neg (by omega)]; exact h.2 b hb⟩

theorem wf_pushset {H : Heap} (h : Wf H) (o o' : AObj) : Wf ((H.push o).set H.next o') := by
  intro b hb
  simp at hb
  rw [Heap.get_set, if_neg (by omega), Heap.get_push, if_neg (by omega)]
  exact h b (by omega)

theorem need_nil {prims : Prims} (h12 : prims 12 = none) (h23 : prims 23 = none) (h20 : prims 20 = none) (off n : Int) (H : Heap) (hw : Wf H) :
    CallsA Try.prog prims 12 [.ptr none, .int .i64 off, .int .i64 n] H fun v H' => v = .int .i64 (needN off n) ∧ HExt H H' ∧ Wf H' := by
  refine CallsA.of Try.func12 h12 rfl Try.ntmps12 (by simp) ?_
  have hx := HExt.refl H
  by_cases c1 : off < 0
  · have e1 : needN off n = 0 := by simp [needN, c1]
    rw [e1]
    repeat (first
      | refine Ops.nil ?_ | refine Then.normal ?_ | refine Then.ret ?_ | refine Then.exit ?_ | refine Left.ret ?_ | refine Left.normal ?_ | refine Left.here ?_ | refine Left.beyond (by decide) ?_ | refine Round.ret ?_ | refine Round.exit ?_
      | refine Wp.seq ?_ | refine Wp.region ?_ | refine Wp.block ?_ | refine Wp.scope ?_ | refine Wp.ret ?_ | refine Wp.skip ?_ | refine Wp.exit ?_
      | refine Ops.op (by simp [c1]; first | done | rfl | exact ⟨rfl, rfl⟩) ?_ | refine Ops.op0 (by simp [c1]; first | done | rfl | exact ⟨rfl, rfl⟩) ?_
      | refine Ops.gskip rfl (by decide) (by simp [c1]; first | done | fail) ?_ | refine Ops.gop rfl (by decide) (by simp [c1]; first | done | fail) (by simp [c1]; first | done | rfl | exact ⟨rfl, rfl⟩) ?_
      | refine Wp.condT (by simp [c1]; first | done | fail) ?_ | refine Wp.condF (by simp [c1]; first | done | fail) ?_)
    simp [hw, hx]
  by_cases c2 : n < 1
  · have e1 : needN off n = 0 := by simp [needN, c2]
    rw [e1]
    repeat (first
      | refine Ops.nil ?_ | refine Then.normal ?_ | refine Then.ret ?_ | refine Then.exit ?_ | refine Left.ret ?_ | refine Left.normal ?_ | refine Left.here ?_ | refine Left.beyond (by decide) ?_ | refine Round.ret ?_ | refine Round.exit ?_
      | refine Wp.seq ?_ | refine Wp.region ?_ | refine Wp.block ?_ | refine Wp.scope ?_ | refine Wp.ret ?_ | refine Wp.skip ?_ | refine Wp.exit ?_
      | refine Ops.op (by simp [c1, c2]; first | done | rfl | exact ⟨rfl, rfl⟩) ?_ | refine Ops.op0 (by simp [c1, c2]; first | done | rfl | exact ⟨rfl, rfl⟩) ?_
      | refine Ops.gskip rfl (by decide) (by simp [c1, c2]; first | done | fail) ?_ | refine Ops.gop rfl (by decide) (by simp [c1, c2]; first | done | fail) (by simp [c1, c2]; first | done | rfl | exact ⟨rfl, rfl⟩) ?_
      | refine Wp.condT (by simp [c1, c2]; first | done | fail) ?_ | refine Wp.condF (by simp [c1, c2]; first | done | fail) ?_)
    simp [hw, hx]
  by_cases c3 : 65536 < off
  · have e1 : needN off n = 0 := by simp [needN, c3]
    rw [e1]
    repeat (first
      | refine Ops.nil ?_ | refine Then.normal ?_ | refine Then.ret ?_ | refine Then.exit ?_ | refine Left.ret ?_ | refine Left.normal ?_ | refine Left.here ?_ | refine Left.beyond (by decide) ?_ | refine Round.ret ?_ | refine Round.exit ?_
      | refine Wp.seq ?_ | refine Wp.region ?_ | refine Wp.block ?_ | refine Wp.scope ?_ | refine Wp.ret ?_ | refine Wp.skip ?_ | refine Wp.exit ?_
      | refine Ops.op (by simp [c1, c2, c3]; first | done | rfl | exact ⟨rfl, rfl⟩) ?_ | refine Ops.op0 (by simp [c1, c2, c3]; first | done | rfl | exact ⟨rfl, rfl⟩) ?_
      | refine Ops.gskip rfl (by decide) (by simp [c1, c2, c3]; first | done | fail) ?_ | refine Ops.gop rfl (by decide) (by simp [c1, c2, c3]; first | done | fail) (by simp [c1, c2, c3]; first | done | rfl | exact ⟨rfl, rfl⟩) ?_
      | refine Wp.condT (by simp [c1, c2, c3]; first | done | fail) ?_ | refine Wp.condF (by simp [c1, c2, c3]; first | done | fail) ?_)
    simp [hw, hx]
  have w1 : IntKind.i64.wrap (65536 - off) = 65536 - off := wrap64 (by omega) (by omega)
  by_cases c4 : 65536 - off < n
  · have e1 : needN off n = 0 := by simp [needN, c4]
    rw [e1]
    repeat (first
      | refine Ops.nil ?_ | refine Then.normal ?_ | refine Then.ret ?_ | refine Then.exit ?_ | refine Left.ret ?_ | refine Left.normal ?_ | refine Left.here ?_ | refine Left.beyond (by decide) ?_ | refine Round.ret ?_ | refine Round.exit ?_
      | refine Wp.seq ?_ | refine Wp.region ?_ | refine Wp.block ?_ | refine Wp.scope ?_ | refine Wp.ret ?_ | refine Wp.skip ?_ | refine Wp.exit ?_
      | refine Ops.op (by simp [c1, c2, c3, w1, c4]; first | done | rfl | exact ⟨rfl, rfl⟩) ?_ | refine Ops.op0 (by simp [c1, c2, c3, w1, c4]; first | done | rfl | exact ⟨rfl, rfl⟩) ?_
      | refine Ops.gskip rfl (by decide) (by simp [c1, c2, c3, w1, c4]; first | done | fail) ?_ | refine Ops.gop rfl (by decide) (by simp [c1, c2, c3, w1, c4]; first | done | fail) (by simp [c1, c2, c3, w1, c4]; first | done | rfl | exact ⟨rfl, rfl⟩) ?_
      | refine Wp.condT (by simp [c1, c2, c3, w1, c4]; first | done | fail) ?_ | refine Wp.condF (by simp [c1, c2, c3, w1, c4]; first | done | fail) ?_)
    simp [hw, hx]
  have e1 : needN off n = (spans off n).length := by
    unfold needN
    rw [if_neg (by omega)]
  rw [e1]
  repeat (first
    | refine Ops.nil ?_ | refine Then.normal ?_ | refine Then.ret ?_ | refine Then.exit ?_ | refine Left.ret ?_ | refine Left.normal ?_ | refine Left.here ?_ | refine Left.beyond (by decide) ?_ | refine Round.ret ?_ | refine Round.exit ?_
    | refine Wp.seq ?_ | refine Wp.region ?_ | refine Wp.block ?_ | refine Wp.scope ?_ | refine Wp.ret ?_ | refine Wp.skip ?_ | refine Wp.exit ?_
    | refine Ops.op (by simp [c1, c2, c3, w1, c4]; first | done | rfl | exact ⟨rfl, rfl⟩) ?_ | refine Ops.op0 (by simp [c1, c2, c3, w1, c4]; first | done | rfl | exact ⟨rfl, rfl⟩) ?_
    | refine Ops.gskip rfl (by decide) (by simp [c1, c2, c3, w1, c4]; first | done | fail) ?_ | refine Ops.gop rfl (by decide) (by simp [c1, c2, c3, w1, c4]; first | done | fail) (by simp [c1, c2, c3, w1, c4]; first | done | rfl | exact ⟨rfl, rfl⟩) ?_
    | refine Wp.condT (by simp [c1, c2, c3, w1, c4]; first | done | fail) ?_ | refine Wp.condF (by simp [c1, c2, c3, w1, c4]; first | done | fail) ?_)
  refine Ops.call (args := [.int .i64 off, .int .i64 n]) (by simp) ?_
  refine (spans_ok h23 off n H hw (by omega) (by omega)).mono fun v H1 ⟨g1, g2, g3, g4, g5⟩ => ?_
  have hform : ∃ base ex, v = .slice base (spans off n).length (spans off n).length ex := by
    rcases g5 with ⟨rfl, h, _⟩ | ⟨b, sl, rfl, _⟩
    · exact ⟨none, none, by rw [h]⟩
    · exact ⟨_, _, rfl⟩
  obtain ⟨base, ex, rfl⟩ := hform
  have hLl : (spans off n).length ≤ 65536 := by have := spansL_len n.toNat off n; unfold spans; omega
  generalize hL : spans off n = L at *
  repeat (first
    | refine Ops.nil ?_ | refine Then.normal ?_ | refine Then.ret ?_ | refine Then.exit ?_ | refine Left.ret ?_ | refine Left.normal ?_ | refine Left.here ?_ | refine Left.beyond (by decide) ?_ | refine Round.ret ?_ | refine Round.exit ?_
    | refine Wp.seq ?_ | refine Wp.region ?_ | refine Wp.block ?_ | refine Wp.scope ?_ | refine Wp.ret ?_ | refine Wp.skip ?_ | refine Wp.exit ?_
    | refine Ops.op (by simp [c1, c2, c3, w1, c4]; first | done | rfl | exact ⟨rfl, rfl⟩) ?_ | refine Ops.op0 (by simp [c1, c2, c3, w1, c4]; first | done | rfl | exact ⟨rfl, rfl⟩) ?_
    | refine Ops.gskip rfl (by decide) (by simp [c1, c2, c3, w1, c4]; first | done | fail) ?_ | refine Ops.gop rfl (by decide) (by simp [c1, c2, c3, w1, c4]; first | done | fail) (by simp [c1, c2, c3, w1, c4]; first | done | rfl | exact ⟨rfl, rfl⟩) ?_
    | refine Wp.condT (by simp [c1, c2, c3, w1, c4]; first | done | fail) ?_ | refine Wp.condF (by simp [c1, c2, c3, w1, c4]; first | done | fail) ?_)
  refine Wp.loop (fun m e H' => ∃ (i : Nat), i ≤ L.length ∧ e 0 = .ptr none ∧ e 7 = .int .i64 i ∧ e 28 = .slice base L.length L.length ex ∧ e 29 = .int .i64 L.length ∧ e 30 = .int .i64 i ∧ m = L.length - i ∧ HExt H1 H' ∧ Wf H') ?_ (m := L.length) ?_
  · rintro m e H' ⟨i, hi, h0, h7, h28, h29, h30, rfl, hx', hw'⟩
    repeat (first
      | refine Ops.nil ?_ | refine Then.normal ?_ | refine Then.ret ?_ | refine Then.exit ?_ | refine Left.ret ?_ | refine Left.normal ?_ | refine Left.here ?_ | refine Left.beyond (by decide) ?_ | refine Round.ret ?_ | refine Round.exit ?_
      | refine Wp.seq ?_ | refine Wp.region ?_ | refine Wp.block ?_ | refine Wp.scope ?_ | refine Wp.ret ?_ | refine Wp.skip ?_ | refine Wp.exit ?_
      | refine Ops.op (by simp [h0, h7, h28, h29, h30]; first | done | rfl | exact ⟨rfl, rfl⟩) ?_ | refine Ops.op0 (by simp [h0, h7, h28, h29, h30]; first | done | rfl | exact ⟨rfl, rfl⟩) ?_
      | refine Ops.gskip rfl (by decide) (by simp [h0, h7, h28, h29, h30]; first | done | fail) ?_ | refine Ops.gop rfl (by decide) (by simp [h0, h7, h28, h29, h30]; first | done | fail) (by simp [h0, h7, h28, h29, h30]; first | done | rfl | exact ⟨rfl, rfl⟩) ?_
      | refine Wp.condT (by simp [h0, h7, h28, h29, h30]; first | done | fail) ?_ | refine Wp.condF (by simp [h0, h7, h28, h29, h30]; first | done | fail) ?_)
    refine Wp.condD (p := (i : Int) < L.length) (by simp [h29, h30]) (fun hlt => ?_) (fun hge => ?_)
    · have hi' : i < L.length := by omega
      have wi : IntKind.i64.wrap ((i : Int) + 1) = (i : Int) + 1 := wrap64 (by omega) (by omega)
      have hcast : ((i : Int) + 1) = ((i + 1 : Nat) : Int) := by omega
      rcases g5 with ⟨_, h, _⟩ | ⟨b, sl, hv, _, hcl, hbn, hbg⟩
      · omega
      injection hv with hv1 _ _ hv2
      subst hv1; subst hv2
      have hb : H'.get b = some (.cells (spanCells L) 58 true false) := (hx'.2 b hbn).trans hbg
      have hbne : b ≠ H'.next := by have := hx'.1; omega
      obtain ⟨y, hy⟩ : ∃ y, L[i]? = some y := ⟨L[i], by simp [hi']⟩
      have hsl := spanCells_get L i y hy
      have hfit : i * 3 + 3 ≤ L.length * 3 := by omega
      have hle : ∀ (a : Nat), H1.next ≤ a → H1.next ≤ a + 1 := fun a h => by omega
      repeat (first
        | refine Ops.nil ?_ | refine Then.normal ?_ | refine Then.ret ?_ | refine Then.exit ?_ | refine Left.ret ?_ | refine Left.normal ?_ | refine Left.here ?_ | refine Left.beyond (by decide) ?_ | refine Round.ret ?_ | refine Round.exit ?_
        | refine Wp.seq ?_ | refine Wp.region ?_ | refine Wp.block ?_ | refine Wp.scope ?_ | refine Wp.ret ?_ | refine Wp.skip ?_ | refine Wp.exit ?_
        | refine Ops.op (by simp [h0, h7, h28, h29, h30, hi', hb, hcl, hsl, hfit]; first | done | rfl | exact ⟨rfl, rfl⟩) ?_ | refine Ops.op0 (by simp [h0, h7, h28, h29, h30, hi', hb, hcl, hsl, hfit]; first | done | rfl | exact ⟨rfl, rfl⟩) ?_
        | refine Ops.gskip rfl (by decide) (by simp [h0, h7, h28, h29, h30, hi', hb, hcl, hsl, hfit]; first | done | fail) ?_ | refine Ops.gop rfl (by decide) (by simp [h0, h7, h28, h29, h30, hi', hb, hcl, hsl, hfit]; first | done | fail) (by simp [h0, h7, h28, h29, h30, hi', hb, hcl, hsl, hfit]; first | done | rfl | exact ⟨rfl, rfl⟩) ?_
        | refine Wp.condT (by simp [h0, h7, h28, h29, h30, hi', hb, hcl, hsl, hfit]; first | done | fail) ?_ | refine Wp.condF (by simp [h0, h7, h28, h29, h30, hi', hb, hcl, hsl, hfit]; first | done | fail) ?_)
      refine Ops.call (args := [.ptr none, .int .i64 y.1]) (by simp [h0, h7, h28, h29, h30, hi', hb, hcl, hsl, hfit]) ?_
      refine (has_nil h20 y.1 _).mono fun v H2 ⟨e2, e3⟩ => ?_
      subst e2; subst e3
      repeat (first
        | refine Ops.nil ?_ | refine Then.normal ?_ | refine Then.ret ?_ | refine Then.exit ?_ | refine Left.ret ?_ | refine Left.normal ?_ | refine Left.here ?_ | refine Left.beyond (by decide) ?_ | refine Round.ret ?_ | refine Round.exit ?_
        | refine Wp.seq ?_ | refine Wp.region ?_ | refine Wp.block ?_ | refine Wp.scope ?_ | refine Wp.ret ?_ | refine Wp.skip ?_ | refine Wp.exit ?_
        | refine Ops.op (by simp [h0, h7, h28, h29, h30, hi', hb, hcl, hsl, hfit, wi]; first | done | rfl | exact ⟨rfl, rfl⟩) ?_ | refine Ops.op0 (by simp [h0, h7, h28, h29, h30, hi', hb, hcl, hsl, hfit, wi]; first | done | rfl | exact ⟨rfl, rfl⟩) ?_
        | refine Ops.gskip rfl (by decide) (by simp [h0, h7, h28, h29, h30, hi', hb, hcl, hsl, hfit, wi]; first | done | fail) ?_ | refine Ops.gop rfl (by decide) (by simp [h0, h7, h28, h29, h30, hi', hb, hcl, hsl, hfit, wi]; first | done | fail) (by simp [h0, h7, h28, h29, h30, hi', hb, hcl, hsl, hfit, wi]; first | done | rfl | exact ⟨rfl, rfl⟩) ?_
        | refine Wp.condT (by simp [h0, h7, h28, h29, h30, hi', hb, hcl, hsl, hfit, wi]; first | done | fail) ?_ | refine Wp.condF (by simp [h0, h7, h28, h29, h30, hi', hb, hcl, hsl, hfit, wi]; first | done | fail) ?_)
      refine Round.normal (L.length - (i + 1)) (by omega) ⟨i + 1, by omega, ?_⟩
      simp [h0, h7, h28, h29, h30]
      exact ⟨hext_pushset hx' _ _, wf_pushset hw' _ _⟩
    · have : i = L.length := by omega
      subst this
      repeat (first
        | refine Ops.nil ?_ | refine Then.normal ?_ | refine Then.ret ?_ | refine Then.exit ?_ | refine Left.ret ?_ | refine Left.normal ?_ | refine Left.here ?_ | refine Left.beyond (by decide) ?_ | refine Round.ret ?_ | refine Round.exit ?_
        | refine Wp.seq ?_ | refine Wp.region ?_ | refine Wp.block ?_ | refine Wp.scope ?_ | refine Wp.ret ?_ | refine Wp.skip ?_ | refine Wp.exit ?_
        | refine Ops.op (by simp [h0, h7, h28, h29, h30]; first | done | rfl | exact ⟨rfl, rfl⟩) ?_ | refine Ops.op0 (by simp [h0, h7, h28, h29, h30]; first | done | rfl | exact ⟨rfl, rfl⟩) ?_
        | refine Ops.gskip rfl (by decide) (by simp [h0, h7, h28, h29, h30]; first | done | fail) ?_ | refine Ops.gop rfl (by decide) (by simp [h0, h7, h28, h29, h30]; first | done | fail) (by simp [h0, h7, h28, h29, h30]; first | done | rfl | exact ⟨rfl, rfl⟩) ?_
        | refine Wp.condT (by simp [h0, h7, h28, h29, h30]; first | done | fail) ?_ | refine Wp.condF (by simp [h0, h7, h28, h29, h30]; first | done | fail) ?_)
      simp [h7, hw']
      exact HExt.trans ⟨g1, g3⟩ hx'
  · refine ⟨0, by omega, by simp, by simp, by simp, by simp, by simp, by omega, HExt.refl _, g2⟩
theorem refhas_nil {prims : Prims} (h24 : prims 24 = none) (k : Int) (hk : 0 ≤ k) (H : Heap) (hw : Wf H) :
    CallsA Try.prog prims 24 [.agg [.slice none 0 0 none, .slice none 0 0 none], .int .i64 k] H fun v H' => v = .bool false ∧ HExt H H' ∧ Wf H' := by
  refine CallsA.of Try.func24 h24 rfl Try.ntmps24 (by simp) ?_
  have hk' : ¬ k < 0 := by omega
  repeat (first
    | refine Ops.nil ?_ | refine Then.normal ?_ | refine Then.ret ?_ | refine Then.exit ?_ | refine Left.ret ?_ | refine Left.normal ?_ | refine Left.here ?_ | refine Left.beyond (by decide) ?_ | refine Round.ret ?_ | refine Round.exit ?_
    | refine Wp.seq ?_ | refine Wp.region ?_ | refine Wp.block ?_ | refine Wp.scope ?_ | refine Wp.ret ?_ | refine Wp.skip ?_ | refine Wp.exit ?_
    | refine Ops.op (by simp [hk']; first | done | rfl | exact ⟨rfl, rfl⟩) ?_ | refine Ops.op0 (by simp [hk']; first | done | rfl | exact ⟨rfl, rfl⟩) ?_
    | refine Ops.gskip rfl (by decide) (by simp [hk']; first | done | fail) ?_ | refine Ops.gop rfl (by decide) (by simp [hk']; first | done | fail) (by simp [hk']; first | done | rfl | exact ⟨rfl, rfl⟩) ?_
    | refine Wp.condT (by simp [hk']; first | done | fail) ?_ | refine Wp.condF (by simp [hk']; first | done | fail) ?_)
  simp
  exact ⟨HExt.push _, push_wf _ hw⟩

theorem spansL_count : ∀ (k : Nat) (off n : Int), 0 ≤ off → 0 < n → n ≤ k → ((spansL k off n).length : Int) = (off + n + 63) / 64 - off / 64
  | 0, off, n, ho, hn, hk => by omega
  | k + 1, off, n, ho, hn, hk => by
    unfold spansL
    rw [if_neg (by omega)]
    by_cases h : n - min n (64 - off % 64) ≤ 0
    · have : spansL k (off + min n (64 - off % 64)) (n - min n (64 - off % 64)) = [] := by
        rw [spansL_fuel k _ _ (by omega) (by omega), spans_nil h]
      rw [this]
      simp only [List.length_cons, List.length_nil]
      omega
    · have := spansL_count k (off + min n (64 - off % 64)) (n - min n (64 - off % 64)) (by omega) (by omega) (by omega)
      simp only [List.length_cons]
      omega

theorem spans_count {off n : Int} (ho : 0 ≤ off) (hn : 0 < n) : ((spans off n).length : Int) = (off + n + 63) / 64 - off / 64 :=
  spansL_count _ _ _ ho hn (by omega)

theorem refneed_nil {prims : Prims} (h13 : prims 13 = none) (h24 : prims 24 = none) (off n : Int) (H : Heap) (hw : Wf H) :
    CallsA Try.prog prims 13 [.agg [.slice none 0 0 none, .slice none 0 0 none], .int .i64 off, .int .i64 n] H fun v H' => v = .int .i64 (needN off n) ∧ HExt H H' ∧ Wf H' := by
  refine CallsA.of Try.func13 h13 rfl Try.ntmps13 (by simp) ?_
  have hx : ∀ o, HExt H (H.push o) := fun o => HExt.push o
  have hw1 : ∀ o, Wf (H.push o) := fun o => push_wf o hw
  by_cases c1 : off < 0
  · have e1 : needN off n = 0 := by simp [needN, c1]
    rw [e1]
    repeat (first
      | refine Ops.nil ?_ | refine Then.normal ?_ | refine Then.ret ?_ | refine Then.exit ?_ | refine Left.ret ?_ | refine Left.normal ?_ | refine Left.here ?_ | refine Left.beyond (by decide) ?_ | refine Round.ret ?_ | refine Round.exit ?_
      | refine Wp.seq ?_ | refine Wp.region ?_ | refine Wp.block ?_ | refine Wp.scope ?_ | refine Wp.ret ?_ | refine Wp.skip ?_ | refine Wp.exit ?_
      | refine Ops.op (by simp [c1]; first | done | rfl | exact ⟨rfl, rfl⟩) ?_ | refine Ops.op0 (by simp [c1]; first | done | rfl | exact ⟨rfl, rfl⟩) ?_
      | refine Ops.gskip rfl (by decide) (by simp [c1]; first | done | fail) ?_ | refine Ops.gop rfl (by decide) (by simp [c1]; first | done | fail) (by simp [c1]; first | done | rfl | exact ⟨rfl, rfl⟩) ?_
      | refine Wp.condT (by simp [c1]; first | done | fail) ?_ | refine Wp.condF (by simp [c1]; first | done | fail) ?_)
    simp [hw1, hx]
  by_cases c2 : n < 1
  · have e1 : needN off n = 0 := by simp [needN, c2]
    rw [e1]
    repeat (first
      | refine Ops.nil ?_ | refine Then.normal ?_ | refine Then.ret ?_ | refine Then.exit ?_ | refine Left.ret ?_ | refine Left.normal ?_ | refine Left.here ?_ | refine Left.beyond (by decide) ?_ | refine Round.ret ?_ | refine Round.exit ?_
      | refine Wp.seq ?_ | refine Wp.region ?_ | refine Wp.block ?_ | refine Wp.scope ?_ | refine Wp.ret ?_ | refine Wp.skip ?_ | refine Wp.exit ?_
      | refine Ops.op (by simp [c1, c2]; first | done | rfl | exact ⟨rfl, rfl⟩) ?_ | refine Ops.op0 (by simp [c1, c2]; first | done | rfl | exact ⟨rfl, rfl⟩) ?_
      | refine Ops.gskip rfl (by decide) (by simp [c1, c2]; first | done | fail) ?_ | refine Ops.gop rfl (by decide) (by simp [c1, c2]; first | done | fail) (by simp [c1, c2]; first | done | rfl | exact ⟨rfl, rfl⟩) ?_
      | refine Wp.condT (by simp [c1, c2]; first | done | fail) ?_ | refine Wp.condF (by simp [c1, c2]; first | done | fail) ?_)
    simp [hw1, hx]
  by_cases c3 : 65536 < off
  · have e1 : needN off n = 0 := by simp [needN, c3]
    rw [e1]
    repeat (first
      | refine Ops.nil ?_ | refine Then.normal ?_ | refine Then.ret ?_ | refine Then.exit ?_ | refine Left.ret ?_ | refine Left.normal ?_ | refine Left.here ?_ | refine Left.beyond (by decide) ?_ | refine Round.ret ?_ | refine Round.exit ?_
      | refine Wp.seq ?_ | refine Wp.region ?_ | refine Wp.block ?_ | refine Wp.scope ?_ | refine Wp.ret ?_ | refine Wp.skip ?_ | refine Wp.exit ?_
      | refine Ops.op (by simp [c1, c2, c3]; first | done | rfl | exact ⟨rfl, rfl⟩) ?_ | refine Ops.op0 (by simp [c1, c2, c3]; first | done | rfl | exact ⟨rfl, rfl⟩) ?_
      | refine Ops.gskip rfl (by decide) (by simp [c1, c2, c3]; first | done | fail) ?_ | refine Ops.gop rfl (by decide) (by simp [c1, c2, c3]; first | done | fail) (by simp [c1, c2, c3]; first | done | rfl | exact ⟨rfl, rfl⟩) ?_
      | refine Wp.condT (by simp [c1, c2, c3]; first | done | fail) ?_ | refine Wp.condF (by simp [c1, c2, c3]; first | done | fail) ?_)
    simp [hw1, hx]
  have w1 : IntKind.i64.wrap (65536 - off) = 65536 - off := wrap64 (by omega) (by omega)
  by_cases c4 : 65536 - off < n
  · have e1 : needN off n = 0 := by simp [needN, c4]
    rw [e1]
    repeat (first
      | refine Ops.nil ?_ | refine Then.normal ?_ | refine Then.ret ?_ | refine Then.exit ?_ | refine Left.ret ?_ | refine Left.normal ?_ | refine Left.here ?_ | refine Left.beyond (by decide) ?_ | refine Round.ret ?_ | refine Round.exit ?_
      | refine Wp.seq ?_ | refine Wp.region ?_ | refine Wp.block ?_ | refine Wp.scope ?_ | refine Wp.ret ?_ | refine Wp.skip ?_ | refine Wp.exit ?_
      | refine Ops.op (by simp [c1, c2, c3, w1, c4]; first | done | rfl | exact ⟨rfl, rfl⟩) ?_ | refine Ops.op0 (by simp [c1, c2, c3, w1, c4]; first | done | rfl | exact ⟨rfl, rfl⟩) ?_
      | refine Ops.gskip rfl (by decide) (by simp [c1, c2, c3, w1, c4]; first | done | fail) ?_ | refine Ops.gop rfl (by decide) (by simp [c1, c2, c3, w1, c4]; first | done | fail) (by simp [c1, c2, c3, w1, c4]; first | done | rfl | exact ⟨rfl, rfl⟩) ?_
      | refine Wp.condT (by simp [c1, c2, c3, w1, c4]; first | done | fail) ?_ | refine Wp.condF (by simp [c1, c2, c3, w1, c4]; first | done | fail) ?_)
    simp [hw1, hx]
  have e1 : needN off n = (spans off n).length := by
    unfold needN
    rw [if_neg (by omega)]
  rw [e1]
  have t2 : off.tdiv 64 = off / 64 := Int.tdiv_eq_ediv_of_nonneg (by omega)
  have t3 : IntKind.i64.wrap (off / 64) = off / 64 := wrap64 (by omega) (by omega)
  have t4 : IntKind.i64.wrap (off + n) = off + n := wrap64 (by omega) (by omega)
  repeat (first
    | refine Ops.nil ?_ | refine Then.normal ?_ | refine Then.ret ?_ | refine Then.exit ?_ | refine Left.ret ?_ | refine Left.normal ?_ | refine Left.here ?_ | refine Left.beyond (by decide) ?_ | refine Round.ret ?_ | refine Round.exit ?_
    | refine Wp.seq ?_ | refine Wp.region ?_ | refine Wp.block ?_ | refine Wp.scope ?_ | refine Wp.ret ?_ | refine Wp.skip ?_ | refine Wp.exit ?_
    | refine Ops.op (by simp [c1, c2, c3, w1, c4, t2, t3]; first | done | rfl | exact ⟨rfl, rfl⟩) ?_ | refine Ops.op0 (by simp [c1, c2, c3, w1, c4, t2, t3]; first | done | rfl | exact ⟨rfl, rfl⟩) ?_
    | refine Ops.gskip rfl (by decide) (by simp [c1, c2, c3, w1, c4, t2, t3]; first | done | fail) ?_ | refine Ops.gop rfl (by decide) (by simp [c1, c2, c3, w1, c4, t2, t3]; first | done | fail) (by simp [c1, c2, c3, w1, c4, t2, t3]; first | done | rfl | exact ⟨rfl, rfl⟩) ?_
    | refine Wp.condT (by simp [c1, c2, c3, w1, c4, t2, t3]; first | done | fail) ?_ | refine Wp.condF (by simp [c1, c2, c3, w1, c4, t2, t3]; first | done | fail) ?_)
  generalize hH1 : H.push (AObj.cells [AV.slice none 0 0 none, AV.slice none 0 0 none] 28 true false) = H1
  have hE1 : HExt H H1 := hH1 ▸ HExt.push _
  have hW1 : Wf H1 := hH1 ▸ push_wf _ hw
  have hg1 : H1.get H.next = some (.cells [AV.slice none 0 0 none, AV.slice none 0 0 none] 28 true false) := by rw [← hH1, Heap.get_push, if_pos rfl]
  have hlt1 : H.next < H1.next := by rw [← hH1]; simp
  have hcount := spans_count (by omega : 0 ≤ off) (by omega : 0 < n)
  generalize (spans off n).length = C at *
  refine Wp.loop (fun m e H' => ∃ (i : Nat), i ≤ C ∧ e 1 = .int .i64 off ∧ e 2 = .int .i64 n ∧ e 3 = .ptr (some (H.next, 0)) ∧ e 7 = .int .i64 i ∧ e 8 = .int .i64 (off / 64 + i) ∧ m = C - i ∧ HExt H1 H' ∧ Wf H') ?_ (m := C) ?_
  · rintro m e H' ⟨i, hi, h1, h2, h3, h7, h8, rfl, hx', hw'⟩
    have w5 : IntKind.i64.wrap ((off / 64 + i) * 64) = (off / 64 + i) * 64 := wrap64 (by omega) (by omega)
    repeat (first
      | refine Ops.nil ?_ | refine Then.normal ?_ | refine Then.ret ?_ | refine Then.exit ?_ | refine Left.ret ?_ | refine Left.normal ?_ | refine Left.here ?_ | refine Left.beyond (by decide) ?_ | refine Round.ret ?_ | refine Round.exit ?_
      | refine Wp.seq ?_ | refine Wp.region ?_ | refine Wp.block ?_ | refine Wp.scope ?_ | refine Wp.ret ?_ | refine Wp.skip ?_ | refine Wp.exit ?_
      | refine Ops.op (by simp [h1, h2, h3, h7, h8, w5, t4]; first | done | rfl | exact ⟨rfl, rfl⟩) ?_ | refine Ops.op0 (by simp [h1, h2, h3, h7, h8, w5, t4]; first | done | rfl | exact ⟨rfl, rfl⟩) ?_
      | refine Ops.gskip rfl (by decide) (by simp [h1, h2, h3, h7, h8, w5, t4]; first | done | fail) ?_ | refine Ops.gop rfl (by decide) (by simp [h1, h2, h3, h7, h8, w5, t4]; first | done | fail) (by simp [h1, h2, h3, h7, h8, w5, t4]; first | done | rfl | exact ⟨rfl, rfl⟩) ?_
      | refine Wp.condT (by simp [h1, h2, h3, h7, h8, w5, t4]; first | done | fail) ?_ | refine Wp.condF (by simp [h1, h2, h3, h7, h8, w5, t4]; first | done | fail) ?_)
    refine Wp.condD (p := (off / 64 + i) * 64 < off + n) (by simp [h1, h2, h3, h7, h8, w5, t4]) (fun hlt => ?_) (fun hge => ?_)
    · have hi' : i < C := by omega
      have w6 : IntKind.i64.wrap ((i : Int) + 1) = (i : Int) + 1 := wrap64 (by omega) (by omega)
      have w7 : IntKind.i64.wrap (off / 64 + (i : Int) + 1) = off / 64 + (i : Int) + 1 := wrap64 (by omega) (by omega)
      have hg : H'.get H.next = some (.cells [AV.slice none 0 0 none, AV.slice none 0 0 none] 28 true false) := (hx'.2 _ hlt1).trans hg1
      repeat (first
        | refine Ops.nil ?_ | refine Then.normal ?_ | refine Then.ret ?_ | refine Then.exit ?_ | refine Left.ret ?_ | refine Left.normal ?_ | refine Left.here ?_ | refine Left.beyond (by decide) ?_ | refine Round.ret ?_ | refine Round.exit ?_
        | refine Wp.seq ?_ | refine Wp.region ?_ | refine Wp.block ?_ | refine Wp.scope ?_ | refine Wp.ret ?_ | refine Wp.skip ?_ | refine Wp.exit ?_
        | refine Ops.op (by simp [h1, h2, h3, h7, h8, hg]; first | done | rfl | exact ⟨rfl, rfl⟩) ?_ | refine Ops.op0 (by simp [h1, h2, h3, h7, h8, hg]; first | done | rfl | exact ⟨rfl, rfl⟩) ?_
        | refine Ops.gskip rfl (by decide) (by simp [h1, h2, h3, h7, h8, hg]; first | done | fail) ?_ | refine Ops.gop rfl (by decide) (by simp [h1, h2, h3, h7, h8, hg]; first | done | fail) (by simp [h1, h2, h3, h7, h8, hg]; first | done | rfl | exact ⟨rfl, rfl⟩) ?_
        | refine Wp.condT (by simp [h1, h2, h3, h7, h8, hg]; first | done | fail) ?_ | refine Wp.condF (by simp [h1, h2, h3, h7, h8, hg]; first | done | fail) ?_)
      refine Ops.call (args := [.agg [.slice none 0 0 none, .slice none 0 0 none], .int .i64 (off / 64 + i)]) (by simp [h1, h2, h3, h7, h8, hg]) ?_
      refine (refhas_nil h24 _ (by omega) _ hw').mono fun v H2 ⟨e2, e3, e4⟩ => ?_
      subst e2
      repeat (first
        | refine Ops.nil ?_ | refine Then.normal ?_ | refine Then.ret ?_ | refine Then.exit ?_ | refine Left.ret ?_ | refine Left.normal ?_ | refine Left.here ?_ | refine Left.beyond (by decide) ?_ | refine Round.ret ?_ | refine Round.exit ?_
        | refine Wp.seq ?_ | refine Wp.region ?_ | refine Wp.block ?_ | refine Wp.scope ?_ | refine Wp.ret ?_ | refine Wp.skip ?_ | refine Wp.exit ?_
        | refine Ops.op (by simp [h1, h2, h3, h7, h8, hg, w6, w7]; first | done | rfl | exact ⟨rfl, rfl⟩) ?_ | refine Ops.op0 (by simp [h1, h2, h3, h7, h8, hg, w6, w7]; first | done | rfl | exact ⟨rfl, rfl⟩) ?_
        | refine Ops.gskip rfl (by decide) (by simp [h1, h2, h3, h7, h8, hg, w6, w7]; first | done | fail) ?_ | refine Ops.gop rfl (by decide) (by simp [h1, h2, h3, h7, h8, hg, w6, w7]; first | done | fail) (by simp [h1, h2, h3, h7, h8, hg, w6, w7]; first | done | rfl | exact ⟨rfl, rfl⟩) ?_
        | refine Wp.condT (by simp [h1, h2, h3, h7, h8, hg, w6, w7]; first | done | fail) ?_ | refine Wp.condF (by simp [h1, h2, h3, h7, h8, hg, w6, w7]; first | done | fail) ?_)
      refine Round.normal (C - (i + 1)) (by omega) ⟨i + 1, by omega, ?_⟩
      simp [h1, h2, h3, h7, h8]
      exact ⟨by omega, hx'.trans e3, e4⟩
    · have : i = C := by omega
      subst this
      repeat (first
        | refine Ops.nil ?_ | refine Then.normal ?_ | refine Then.ret ?_ | refine Then.exit ?_ | refine Left.ret ?_ | refine Left.normal ?_ | refine Left.here ?_ | refine Left.beyond (by decide) ?_ | refine Round.ret ?_ | refine Round.exit ?_
        | refine Wp.seq ?_ | refine Wp.region ?_ | refine Wp.block ?_ | refine Wp.scope ?_ | refine Wp.ret ?_ | refine Wp.skip ?_ | refine Wp.exit ?_
        | refine Ops.op (by simp [h1, h2, h3, h7, h8]; first | done | rfl | exact ⟨rfl, rfl⟩) ?_ | refine Ops.op0 (by simp [h1, h2, h3, h7, h8]; first | done | rfl | exact ⟨rfl, rfl⟩) ?_
        | refine Ops.gskip rfl (by decide) (by simp [h1, h2, h3, h7, h8]; first | done | fail) ?_ | refine Ops.gop rfl (by decide) (by simp [h1, h2, h3, h7, h8]; first | done | fail) (by simp [h1, h2, h3, h7, h8]; first | done | rfl | exact ⟨rfl, rfl⟩) ?_
        | refine Wp.condT (by simp [h1, h2, h3, h7, h8]; first | done | fail) ?_ | refine Wp.condF (by simp [h1, h2, h3, h7, h8]; first | done | fail) ?_)
      simp [h7, hw']
      exact hE1.trans hx'
  · refine ⟨0, by omega, by simp, by simp, by simp, by simp, by simp, by omega, HExt.refl _, hW1⟩
end Go.Abs
