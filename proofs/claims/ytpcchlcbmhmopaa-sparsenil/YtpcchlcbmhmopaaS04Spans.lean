/- Chapter 04: the blocks that bytes lie in. -/
import Derived.Test.YtpcchlcbmhmopaaS04Fact
import Derived.Test.YtpcchlcbmhmopaaAbSlice
namespace Go.Abs
open Go.Proofs
set_option maxRecDepth 100000
set_option linter.unusedVariables false
set_option linter.unusedSimpArgs false
attribute [local simp] ev_tmp ev_const ofConst ofBasic setE_eq argEnv resultsA tupled tab_at opR_move opR_assign mvR_some opR_pick pickR_eq opR_bin binR_add binR_sub binR_mul binR_quo binR_rem binR_eql binR_neq binR_lss binR_leq binR_gtr binR_geq
  binR_nilnil_p binR_nilnil_pn binR_ptrnil binR_ptrniln binR_slnil binR_slniln binR_mapnil binR_mapniln opR_un unR_not opR_extract extractR_eq opR_nilCheck nilCheckR_eq opR_fieldAddr fieldAddrR_eq opR_load opR_store opR_box boxR_some opR_build buildR_eq opR_buildSlice buildSliceR_eq
  opR_builtin len_slice len_mapnil min_two max_two mapOpt evParts firstT buildA buildSliceA fillA fieldPlaces zeros AV.cells writeAt Sm.run

def spansL : Nat → Int → Int → List (Int × Int × Int)
  | 0, _, _ => []
  | k + 1, off, n => if n ≤ 0 then [] else
    (off / 64, off % 64, off % 64 + min n (64 - off % 64)) :: spansL k (off + min n (64 - off % 64)) (n - min n (64 - off % 64))

def spans (off n : Int) : List (Int × Int × Int) := spansL n.toNat off n

theorem spansL_fuel : ∀ (k : Nat) (off n : Int), 0 ≤ off → n ≤ k → spansL k off n = spans off n := by
  intro k
  induction k using Nat.strongRecOn with
  | ind k ih =>
    intro off n ho hk
    unfold spans
    by_cases hn : n ≤ 0
    · have : n.toNat = 0 := by omega
      rw [this]
      cases k with
      | zero => rfl
      | succ k => simp [spansL, hn]
    · obtain ⟨j, hj⟩ : ∃ j, n.toNat = j + 1 := ⟨n.toNat - 1, by omega⟩
      cases k with
      | zero => omega
      | succ k =>
        rw [hj]
        simp only [spansL, if_neg hn]
        congr 1
        have h1 : 0 ≤ off % 64 ∧ off % 64 < 64 := ⟨by omega, by omega⟩
        rw [ih k (by omega) _ _ (by omega) (by omega)]
        by_cases hjk : j < k + 1
        · rw [ih j (by omega) _ _ (by omega) (by omega)]
        · omega

theorem spans_nil {off n : Int} (h : n ≤ 0) : spans off n = [] := by
  have : n.toNat = 0 := by omega
  simp [spans, this, spansL]

theorem spans_pos {off n : Int} (ho : 0 ≤ off) (h : 0 < n) : spans off n = (off / 64, off % 64, off % 64 + min n (64 - off % 64)) :: spans (off + min n (64 - off % 64)) (n - min n (64 - off % 64)) := by
  obtain ⟨j, hj⟩ : ∃ j, n.toNat = j + 1 := ⟨n.toNat - 1, by omega⟩
  conv => lhs; unfold spans
  rw [hj]
  simp only [spansL, if_neg (by omega : ¬ n ≤ 0)]
  congr 1
  exact spansL_fuel _ _ _ (by omega) (by omega)

def spanCells (l : List (Int × Int × Int)) : List AV := l.flatMap fun x => [.int .i64 x.1, .int .i64 x.2.1, .int .i64 x.2.2]

theorem wrap64 {a : Int} (h : -(2 ^ 63) ≤ a) (h' : a < 2 ^ 63) : IntKind.i64.wrap a = a := by
  unfold IntKind.wrap
  dsimp only
  split <;> rename_i h1 <;> simp [IntKind.bits, IntKind.signed] at h1 ⊢ <;> omega

theorem spans_ok {prims : Prims} (hp : prims 23 = none) (off n : Int) (H : Heap) (hw : Wf H) (ho : 0 ≤ off) (hb : off + n ≤ 2 ^ 40) :
    CallsA Try.prog prims 23 [.int .i64 off, .int .i64 n] H fun v H' =>
      H.next ≤ H'.next ∧ Wf H' ∧ (∀ b, b < H.next → H'.get b = H.get b) ∧ (∀ b, slBlock v = some b → H.next ≤ b) ∧ OwnSl H' 58 3 v (spans off n).length (spanCells (spans off n)) := by
  refine CallsA.of Try.func23 hp rfl Try.ntmps23 (by simp) ?_
  repeat (first
    | refine Ops.nil ?_ | refine Then.normal ?_ | refine Wp.seq ?_ | refine Wp.region ?_ | refine Wp.block ?_
    | refine Ops.op (by simp; first | done | rfl | exact ⟨rfl, rfl⟩) ?_)
  refine Wp.loop (fun m e H' => ∃ (o' n' : Int) (acc : List (Int × Int × Int)) (base : Option (Nat × Nat)) (ex : Option Nat), e 0 = .int .i64 o' ∧ e 1 = .int .i64 n' ∧ e 5 = .slice base acc.length acc.length ex ∧ 0 ≤ o' ∧ o' + n' ≤ 2 ^ 40 ∧ m = n'.toNat ∧
    acc ++ spans o' n' = spans off n ∧ acc.length ≤ o' ∧ OwnSl H' 58 3 (.slice base acc.length acc.length ex) acc.length (spanCells acc) ∧ H.next ≤ H'.next ∧ Wf H' ∧ (∀ b, b < H.next → H'.get b = H.get b) ∧ (∀ x, base = some x → H.next ≤ x.1)) ?_ (m := n.toNat) ?_
  · rintro m e H' ⟨o', n', acc, base, ex, h0, h1, h5, ho', hb', rfl, hacc, hal, hown, hn, hw', hk, hbs⟩
    repeat (first
      | refine Ops.nil ?_ | refine Then.normal ?_ | refine Wp.seq ?_ | refine Wp.region ?_ | refine Wp.block ?_
      | refine Ops.op (by simp [h0, h1, h5]; first | done | rfl | exact ⟨rfl, rfl⟩) ?_)
    refine Wp.condD (p := 0 < n') (by simp [h0, h1, h5]) (fun hpos => Wp.skip ?_) (fun hneg => Wp.exit ?_)
    · have hq : 0 ≤ o' % 64 ∧ o' % 64 < 64 := ⟨by omega, by omega⟩
      have t1 : o'.tmod 64 = o' % 64 := Int.tmod_eq_emod_of_nonneg ho'
      have t2 : o'.tdiv 64 = o' / 64 := Int.tdiv_eq_ediv_of_nonneg ho'
      have t3 : IntKind.i64.wrap (64 - o' % 64) = 64 - o' % 64 := wrap64 (by omega) (by omega)
      have t4 : IntKind.i64.wrap (o' / 64) = o' / 64 := wrap64 (by omega) (by omega)
      have t5 : (if 64 - o' % 64 < n' then 64 - o' % 64 else n') = min n' (64 - o' % 64) := by split <;> omega
      have t6 : IntKind.i64.wrap (o' % 64 + min n' (64 - o' % 64)) = o' % 64 + min n' (64 - o' % 64) := wrap64 (by omega) (by omega)
      have t7 : IntKind.i64.wrap (o' + min n' (64 - o' % 64)) = o' + min n' (64 - o' % 64) := wrap64 (by omega) (by omega)
      have t8 : IntKind.i64.wrap (n' - min n' (64 - o' % 64)) = n' - min n' (64 - o' % 64) := wrap64 (by omega) (by omega)
      repeat (first
        | refine Ops.nil ?_ | refine Then.normal ?_ | refine Wp.seq ?_ | refine Wp.region ?_ | refine Wp.block ?_
        | refine Ops.op (by simp [h0, h1, h5, t1, t2, t3, t4, t5, t6]; first | done | rfl | exact ⟨rfl, rfl⟩) ?_)
      generalize hnew : [AV.int IntKind.i64 (o' / 64), AV.int IntKind.i64 (o' % 64), AV.int IntKind.i64 (o' % 64 + min n' (64 - o' % 64))] = new
      have hown1 : OwnSl (H'.push (.cells new 58 true false)) 58 3 (.slice base acc.length acc.length ex) acc.length (spanCells acc) :=
        hown.keep (by simp) fun b _ hb => by rw [Heap.get_push, if_neg (by omega)]
      obtain ⟨v', H2, ha, ho2, ⟨hx1, hx2, hx3⟩, hbk⟩ := appendA_own (bytes := 24) (m := 1) (new := new) hown1 (by subst hnew; rfl) (by subst hnew; rfl) (by omega) (by omega)
      refine Ops.op (v := v') (H' := H2) ?_ ?_
      · simp [h0, h1, h5]
        rw [append_eq (t := 55) (t1 := 55) (m := 1) (new := new) (elem := 58) (s := 3) (bytes := 24) rfl Try.underlying55 tsz58 tbytes58 tzero58 rfl (by simp [isCount]) rfl Try.underlying55 rfl ?_ (by subst hnew; rfl)]
        · exact ha
        · simp only [srcCells, cellsAt, Heap.get_push, if_true]
          subst hnew
          rfl
      repeat (first
        | refine Ops.nil ?_ | refine Then.normal ?_ | refine Left.normal ?_ | refine Wp.seq ?_ | refine Wp.region ?_ | refine Wp.block ?_
        | refine Ops.op (by simp [h0, h1, h5, t7, t8]; first | done | rfl | exact ⟨rfl, rfl⟩) ?_)
      rcases ho2 with ⟨_, h, _⟩ | ⟨b, sl, rfl, g1, g2, g3, g4⟩
      · omega
      refine Round.normal (n' - min n' (64 - o' % 64)).toNat (by omega) ⟨o' + min n' (64 - o' % 64), n' - min n' (64 - o' % 64), acc ++ [(o' / 64, o' % 64, o' % 64 + min n' (64 - o' % 64))], some (b, 0), sl, by simp, by simp, by simp, by omega, by omega, rfl, ?_, ?_, ?_, ?_, ?_, ?_, ?_⟩
      · rw [List.append_assoc, ← hacc, spans_pos ho' hpos]
        rfl
      · simp; omega
      · have e1 : spanCells (acc ++ [(o' / 64, o' % 64, o' % 64 + min n' (64 - o' % 64))]) = spanCells acc ++ new := by subst hnew; simp [spanCells]
        rw [e1]
        exact .inr ⟨b, sl, by simp, g1, by simpa using g2, g3, g4⟩
      · simp at hx1; omega
      · exact hx2 (push_wf _ hw')
      · intro x hx
        rw [hx3 x (by simp; omega) ?_, Heap.get_push, if_neg (by omega)]
        · exact hk x hx
        · intro h
          cases base with
          | none => simp [slBlock] at h
          | some y => obtain ⟨y1, y2⟩ := y; simp [slBlock] at h; have := hbs _ rfl; simp at this; omega
      · intro x hx
        injection hx with hx
        subst hx
        rcases hbk with hbk | hbk
        · cases base with
          | none => simp [slBlock] at hbk
          | some y => obtain ⟨y1, y2⟩ := y; simp [slBlock] at hbk; have := hbs _ rfl; simp at this; subst hbk; exact this
        · simp [slBlock] at hbk; simp; omega
    · refine Then.exit ?_
      refine Round.exit ?_
      refine Left.here ?_
      have hn0 : n' ≤ 0 := by omega
      rw [spans_nil hn0, List.append_nil] at hacc
      repeat (first
        | refine Ops.nil ?_ | refine Then.normal ?_ | refine Then.ret ?_ | refine Wp.ret ?_ | refine Wp.seq ?_ | refine Wp.region ?_
        | refine Ops.op (by simp [h0, h1, h5]; first | done | rfl | exact ⟨rfl, rfl⟩) ?_)
      simp
      subst hacc
      refine ⟨hn, hw', hk, ?_, hown⟩
      intro b hb
      cases base with
      | none => simp [slBlock] at hb
      | some x => obtain ⟨x1, x2⟩ := x; simp [slBlock] at hb; subst hb; exact hbs _ rfl
  · refine ⟨off, n, [], none, none, by simp, by simp, by simp, ho, hb, rfl, by simp, by simpa using ho, .inl ⟨rfl, rfl, rfl⟩, Nat.le_refl _, hw, fun _ _ => rfl, by simp⟩
end Go.Abs
