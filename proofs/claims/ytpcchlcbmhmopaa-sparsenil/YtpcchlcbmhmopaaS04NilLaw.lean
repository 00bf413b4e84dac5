/- Chapter 04: SparseNil, walked. -/
import Derived.Test.YtpcchlcbmhmopaaS04Need
import Derived.Test.YtpcchlcbmhmopaaAbRow
import Derived.Test.YtpcchlcbmhmopaaAbClosed
namespace Go.Abs
open Go.Proofs
set_option maxRecDepth 100000
set_option linter.unusedVariables false
set_option linter.unusedSimpArgs false
attribute [local simp] ev_tmp ev_const ofConst ofBasic setE_eq argEnv resultsA tupled tab_at opR_move opR_assign mvR_some opR_pick pickR_eq opR_bin binR_add binR_sub binR_mul binR_quo binR_rem binR_eql binR_neq binR_lss binR_leq binR_gtr binR_geq
  binR_nilnil_p binR_nilnil_pn binR_ptrnil binR_ptrniln binR_slnil binR_slniln binR_mapnil binR_mapniln opR_un unR_not opR_extract extractR_eq opR_nilCheck nilCheckR_eq opR_fieldAddr fieldAddrR_eq opR_load loadR_ptr opR_store storeR_ptr opR_box boxR_some opR_build buildR_eq opR_buildSlice buildSliceR_eq
  opR_indexAddr indexAddrR_slice indexAddrR_array opR_builtin len_slice len_mapnil min_two max_two mapOpt evParts firstT buildA buildSliceA fillA fieldPlaces zeros AV.cells writeAt Sm.run readVar writeCells Heap.get_push Heap.get_set opR_alloc AV.one

theorem read_nil {prims : Prims} (h10 : prims 10 = none) (h19 : prims 19 = none) (off n : Int) (H : Heap) :
    CallsA Try.prog prims 10 [.ptr none, .int .i64 off, .int .i64 n] H fun v H' => v = .slice none 0 0 none ∧ H' = H := by
  refine CallsA.of Try.func10 h10 rfl Try.ntmps10 (by simp) ?_
  by_cases c1 : off < 0
  · repeat (first
      | refine Ops.nil ?_ | refine Then.normal ?_ | refine Then.ret ?_ | refine Then.exit ?_ | refine Left.ret ?_ | refine Left.normal ?_ | refine Left.here ?_ | refine Left.beyond (by decide) ?_ | refine Round.ret ?_ | refine Round.exit ?_
      | refine Wp.seq ?_ | refine Wp.region ?_ | refine Wp.block ?_ | refine Wp.scope ?_ | refine Wp.ret ?_ | refine Wp.skip ?_ | refine Wp.exit ?_
      | refine Ops.op (by simp [c1]; first | done | rfl | exact ⟨rfl, rfl⟩) ?_ | refine Ops.op0 (by simp [c1]; first | done | rfl | exact ⟨rfl, rfl⟩) ?_
      | refine Ops.gskip rfl (by decide) (by simp [c1]; first | done | fail) ?_ | refine Ops.gop rfl (by decide) (by simp [c1]; first | done | fail) (by simp [c1]; first | done | rfl | exact ⟨rfl, rfl⟩) ?_
      | refine Wp.condT (by simp [c1]; first | done | fail) ?_ | refine Wp.condF (by simp [c1]; first | done | fail) ?_)
    simp
  by_cases c2 : n < 0
  · repeat (first
      | refine Ops.nil ?_ | refine Then.normal ?_ | refine Then.ret ?_ | refine Then.exit ?_ | refine Left.ret ?_ | refine Left.normal ?_ | refine Left.here ?_ | refine Left.beyond (by decide) ?_ | refine Round.ret ?_ | refine Round.exit ?_
      | refine Wp.seq ?_ | refine Wp.region ?_ | refine Wp.block ?_ | refine Wp.scope ?_ | refine Wp.ret ?_ | refine Wp.skip ?_ | refine Wp.exit ?_
      | refine Ops.op (by simp [c1, c2]; first | done | rfl | exact ⟨rfl, rfl⟩) ?_ | refine Ops.op0 (by simp [c1, c2]; first | done | rfl | exact ⟨rfl, rfl⟩) ?_
      | refine Ops.gskip rfl (by decide) (by simp [c1, c2]; first | done | fail) ?_ | refine Ops.gop rfl (by decide) (by simp [c1, c2]; first | done | fail) (by simp [c1, c2]; first | done | rfl | exact ⟨rfl, rfl⟩) ?_
      | refine Wp.condT (by simp [c1, c2]; first | done | fail) ?_ | refine Wp.condF (by simp [c1, c2]; first | done | fail) ?_)
    simp
  have c3 : 0 ≤ off := by omega
  repeat (first
    | refine Ops.nil ?_ | refine Then.normal ?_ | refine Then.ret ?_ | refine Then.exit ?_ | refine Left.ret ?_ | refine Left.normal ?_ | refine Left.here ?_ | refine Left.beyond (by decide) ?_ | refine Round.ret ?_ | refine Round.exit ?_
    | refine Wp.seq ?_ | refine Wp.region ?_ | refine Wp.block ?_ | refine Wp.scope ?_ | refine Wp.ret ?_ | refine Wp.skip ?_ | refine Wp.exit ?_
    | refine Ops.op (by simp [c1, c2, c3]; first | done | rfl | exact ⟨rfl, rfl⟩) ?_ | refine Ops.op0 (by simp [c1, c2, c3]; first | done | rfl | exact ⟨rfl, rfl⟩) ?_
    | refine Ops.gskip rfl (by decide) (by simp [c1, c2, c3]; first | done | fail) ?_ | refine Ops.gop rfl (by decide) (by simp [c1, c2, c3]; first | done | fail) (by simp [c1, c2, c3]; first | done | rfl | exact ⟨rfl, rfl⟩) ?_
    | refine Wp.condT (by simp [c1, c2, c3]; first | done | fail) ?_ | refine Wp.condF (by simp [c1, c2, c3]; first | done | fail) ?_)
  refine Ops.gcall (args := [.ptr none]) rfl (by decide) (by simp [c1, c2]) (by simp) ?_
  refine (size_nil h19 H).mono fun v H2 ⟨e2, e3⟩ => ?_
  subst e2; subst e3
  repeat (first
    | refine Ops.nil ?_ | refine Then.normal ?_ | refine Then.ret ?_ | refine Then.exit ?_ | refine Left.ret ?_ | refine Left.normal ?_ | refine Left.here ?_ | refine Left.beyond (by decide) ?_ | refine Round.ret ?_ | refine Round.exit ?_
    | refine Wp.seq ?_ | refine Wp.region ?_ | refine Wp.block ?_ | refine Wp.scope ?_ | refine Wp.ret ?_ | refine Wp.skip ?_ | refine Wp.exit ?_
    | refine Ops.op (by simp [c1, c2, c3]; first | done | rfl | exact ⟨rfl, rfl⟩) ?_ | refine Ops.op0 (by simp [c1, c2, c3]; first | done | rfl | exact ⟨rfl, rfl⟩) ?_
    | refine Ops.gskip rfl (by decide) (by simp [c1, c2, c3]; first | done | fail) ?_ | refine Ops.gop rfl (by decide) (by simp [c1, c2, c3]; first | done | fail) (by simp [c1, c2, c3]; first | done | rfl | exact ⟨rfl, rfl⟩) ?_
    | refine Wp.condT (by simp [c1, c2, c3]; first | done | fail) ?_ | refine Wp.condF (by simp [c1, c2, c3]; first | done | fail) ?_)
  simp

theorem sparseNil_main {prims : Prims} (hp : ∀ f, f ≠ 14 → prims f = none) (h14 : prims 14 = some fun args H => if args.isEmpty then some (.bool true, H) else none) (off n : Int) (b : AV) (H : Heap) (hw : Wf H) :
    CallsA Try.prog prims 6 [.int .i64 off, .int .i64 n, b] H fun v _ => v = .bool true := by
  refine CallsA.of Try.func6 (hp 6 (by decide)) rfl Try.ntmps6 (by simp) ?_
  repeat (first
    | refine Ops.nil ?_ | refine Then.normal ?_ | refine Then.ret ?_ | refine Then.exit ?_ | refine Left.ret ?_ | refine Left.normal ?_ | refine Left.here ?_ | refine Left.beyond (by decide) ?_ | refine Round.ret ?_ | refine Round.exit ?_
    | refine Wp.seq ?_ | refine Wp.region ?_ | refine Wp.block ?_ | refine Wp.scope ?_ | refine Wp.ret ?_ | refine Wp.skip ?_ | refine Wp.exit ?_
    | refine Ops.op (by simp ; first | done | rfl | exact ⟨rfl, rfl⟩) ?_ | refine Ops.op0 (by simp ; first | done | rfl | exact ⟨rfl, rfl⟩) ?_
    | refine Ops.gskip rfl (by decide) (by simp ; first | done | fail) ?_ | refine Ops.gop rfl (by decide) (by simp ; first | done | fail) (by simp ; first | done | rfl | exact ⟨rfl, rfl⟩) ?_
    | refine Wp.condT (by simp ; first | done | fail) ?_ | refine Wp.condF (by simp ; first | done | fail) ?_)
  refine Ops.call (args := [.ptr none, .int .i64 off, b, .int .i64 1000]) (by simp) ?_
  refine (write_nil (hp 17 (by decide)) off b 1000 H).mono fun v H2 ⟨e2, e3⟩ => ?_
  subst e2; subst e3
  repeat (first
    | refine Ops.nil ?_ | refine Then.normal ?_ | refine Then.ret ?_ | refine Then.exit ?_ | refine Left.ret ?_ | refine Left.normal ?_ | refine Left.here ?_ | refine Left.beyond (by decide) ?_ | refine Round.ret ?_ | refine Round.exit ?_
    | refine Wp.seq ?_ | refine Wp.region ?_ | refine Wp.block ?_ | refine Wp.scope ?_ | refine Wp.ret ?_ | refine Wp.skip ?_ | refine Wp.exit ?_
    | refine Ops.op (by simp ; first | done | rfl | exact ⟨rfl, rfl⟩) ?_ | refine Ops.op0 (by simp ; first | done | rfl | exact ⟨rfl, rfl⟩) ?_
    | refine Ops.gskip rfl (by decide) (by simp ; first | done | fail) ?_ | refine Ops.gop rfl (by decide) (by simp ; first | done | fail) (by simp ; first | done | rfl | exact ⟨rfl, rfl⟩) ?_
    | refine Wp.condT (by simp ; first | done | fail) ?_ | refine Wp.condF (by simp ; first | done | fail) ?_)
  refine Ops.call (args := [.ptr none, .int .i64 n]) (by simp) ?_
  refine (truncate_nil (hp 16 (by decide)) n _).mono fun v H2 ⟨e2, e3⟩ => ?_
  subst e2; subst e3
  repeat (first
    | refine Ops.nil ?_ | refine Then.normal ?_ | refine Then.ret ?_ | refine Then.exit ?_ | refine Left.ret ?_ | refine Left.normal ?_ | refine Left.here ?_ | refine Left.beyond (by decide) ?_ | refine Round.ret ?_ | refine Round.exit ?_
    | refine Wp.seq ?_ | refine Wp.region ?_ | refine Wp.block ?_ | refine Wp.scope ?_ | refine Wp.ret ?_ | refine Wp.skip ?_ | refine Wp.exit ?_
    | refine Ops.op (by simp ; first | done | rfl | exact ⟨rfl, rfl⟩) ?_ | refine Ops.op0 (by simp ; first | done | rfl | exact ⟨rfl, rfl⟩) ?_
    | refine Ops.gskip rfl (by decide) (by simp ; first | done | fail) ?_ | refine Ops.gop rfl (by decide) (by simp ; first | done | fail) (by simp ; first | done | rfl | exact ⟨rfl, rfl⟩) ?_
    | refine Wp.condT (by simp ; first | done | fail) ?_ | refine Wp.condF (by simp ; first | done | fail) ?_)
  refine Ops.call (args := [.ptr none]) (by simp) ?_
  refine (size_nil (hp 19 (by decide)) _).mono fun v H2 ⟨e2, e3⟩ => ?_
  subst e2; subst e3
  repeat (first
    | refine Ops.nil ?_ | refine Then.normal ?_ | refine Then.ret ?_ | refine Then.exit ?_ | refine Left.ret ?_ | refine Left.normal ?_ | refine Left.here ?_ | refine Left.beyond (by decide) ?_ | refine Round.ret ?_ | refine Round.exit ?_
    | refine Wp.seq ?_ | refine Wp.region ?_ | refine Wp.block ?_ | refine Wp.scope ?_ | refine Wp.ret ?_ | refine Wp.skip ?_ | refine Wp.exit ?_
    | refine Ops.op (by simp ; first | done | rfl | exact ⟨rfl, rfl⟩) ?_ | refine Ops.op0 (by simp ; first | done | rfl | exact ⟨rfl, rfl⟩) ?_
    | refine Ops.gskip rfl (by decide) (by simp ; first | done | fail) ?_ | refine Ops.gop rfl (by decide) (by simp ; first | done | fail) (by simp ; first | done | rfl | exact ⟨rfl, rfl⟩) ?_
    | refine Wp.condT (by simp ; first | done | fail) ?_ | refine Wp.condF (by simp ; first | done | fail) ?_)
  refine Ops.gcall (args := [.ptr none]) rfl (by decide) (by simp) (by simp) ?_
  refine (blocks_nil (hp 18 (by decide)) _).mono fun v H2 ⟨e2, e3⟩ => ?_
  subst e2; subst e3
  repeat (first
    | refine Ops.nil ?_ | refine Then.normal ?_ | refine Then.ret ?_ | refine Then.exit ?_ | refine Left.ret ?_ | refine Left.normal ?_ | refine Left.here ?_ | refine Left.beyond (by decide) ?_ | refine Round.ret ?_ | refine Round.exit ?_
    | refine Wp.seq ?_ | refine Wp.region ?_ | refine Wp.block ?_ | refine Wp.scope ?_ | refine Wp.ret ?_ | refine Wp.skip ?_ | refine Wp.exit ?_
    | refine Ops.op (by simp ; first | done | rfl | exact ⟨rfl, rfl⟩) ?_ | refine Ops.op0 (by simp ; first | done | rfl | exact ⟨rfl, rfl⟩) ?_
    | refine Ops.gskip rfl (by decide) (by simp ; first | done | fail) ?_ | refine Ops.gop rfl (by decide) (by simp ; first | done | fail) (by simp ; first | done | rfl | exact ⟨rfl, rfl⟩) ?_
    | refine Wp.condT (by simp ; first | done | fail) ?_ | refine Wp.condF (by simp ; first | done | fail) ?_)
  refine Ops.gcall (args := [.ptr none, .int .i64 off]) rfl (by decide) (by simp) (by simp) ?_
  refine (has_nil (hp 20 (by decide)) off _).mono fun v H2 ⟨e2, e3⟩ => ?_
  subst e2; subst e3
  repeat (first
    | refine Ops.nil ?_ | refine Then.normal ?_ | refine Then.ret ?_ | refine Then.exit ?_ | refine Left.ret ?_ | refine Left.normal ?_ | refine Left.here ?_ | refine Left.beyond (by decide) ?_ | refine Round.ret ?_ | refine Round.exit ?_
    | refine Wp.seq ?_ | refine Wp.region ?_ | refine Wp.block ?_ | refine Wp.scope ?_ | refine Wp.ret ?_ | refine Wp.skip ?_ | refine Wp.exit ?_
    | refine Ops.op (by simp ; first | done | rfl | exact ⟨rfl, rfl⟩) ?_ | refine Ops.op0 (by simp ; first | done | rfl | exact ⟨rfl, rfl⟩) ?_
    | refine Ops.gskip rfl (by decide) (by simp ; first | done | fail) ?_ | refine Ops.gop rfl (by decide) (by simp ; first | done | fail) (by simp ; first | done | rfl | exact ⟨rfl, rfl⟩) ?_
    | refine Wp.condT (by simp ; first | done | fail) ?_ | refine Wp.condF (by simp ; first | done | fail) ?_)
  refine Ops.gcall (args := [.ptr none, .int .i64 off, .int .i64 n]) rfl (by decide) (by simp) (by simp) ?_
  refine (read_nil (hp 10 (by decide)) (hp 19 (by decide)) off n _).mono fun v H2 ⟨e2, e3⟩ => ?_
  subst e2; subst e3
  repeat (first
    | refine Ops.nil ?_ | refine Then.normal ?_ | refine Then.ret ?_ | refine Then.exit ?_ | refine Left.ret ?_ | refine Left.normal ?_ | refine Left.here ?_ | refine Left.beyond (by decide) ?_ | refine Round.ret ?_ | refine Round.exit ?_
    | refine Wp.seq ?_ | refine Wp.region ?_ | refine Wp.block ?_ | refine Wp.scope ?_ | refine Wp.ret ?_ | refine Wp.skip ?_ | refine Wp.exit ?_
    | refine Ops.op (by simp ; first | done | rfl | exact ⟨rfl, rfl⟩) ?_ | refine Ops.op0 (by simp ; first | done | rfl | exact ⟨rfl, rfl⟩) ?_
    | refine Ops.gskip rfl (by decide) (by simp ; first | done | fail) ?_ | refine Ops.gop rfl (by decide) (by simp ; first | done | fail) (by simp ; first | done | rfl | exact ⟨rfl, rfl⟩) ?_
    | refine Wp.condT (by simp ; first | done | fail) ?_ | refine Wp.condF (by simp ; first | done | fail) ?_)
  refine Ops.gcall (args := [.ptr none, .int .i64 off, .int .i64 n]) rfl (by decide) (by simp) (by simp) ?_
  refine (need_nil (hp 12 (by decide)) (hp 23 (by decide)) (hp 20 (by decide)) off n _ hw).mono fun v H2 ⟨e2, e3, e4⟩ => ?_
  subst e2
  repeat (first
    | refine Ops.nil ?_ | refine Then.normal ?_ | refine Then.ret ?_ | refine Then.exit ?_ | refine Left.ret ?_ | refine Left.normal ?_ | refine Left.here ?_ | refine Left.beyond (by decide) ?_ | refine Round.ret ?_ | refine Round.exit ?_
    | refine Wp.seq ?_ | refine Wp.region ?_ | refine Wp.block ?_ | refine Wp.scope ?_ | refine Wp.ret ?_ | refine Wp.skip ?_ | refine Wp.exit ?_
    | refine Ops.op (by simp ; first | done | rfl | exact ⟨rfl, rfl⟩) ?_ | refine Ops.op0 (by simp ; first | done | rfl | exact ⟨rfl, rfl⟩) ?_
    | refine Ops.gskip rfl (by decide) (by simp ; first | done | fail) ?_ | refine Ops.gop rfl (by decide) (by simp ; first | done | fail) (by simp ; first | done | rfl | exact ⟨rfl, rfl⟩) ?_
    | refine Wp.condT (by simp ; first | done | fail) ?_ | refine Wp.condF (by simp ; first | done | fail) ?_)
  refine Ops.gcall (args := [.agg [.slice none 0 0 none, .slice none 0 0 none], .int .i64 off, .int .i64 n]) rfl (by decide) (by simp) (by simp) ?_
  refine (refneed_nil (hp 13 (by decide)) (hp 24 (by decide)) off n _ e4).mono fun v H3 ⟨e5, e6, e7⟩ => ?_
  subst e5
  repeat (first
    | refine Ops.nil ?_ | refine Then.normal ?_ | refine Then.ret ?_ | refine Then.exit ?_ | refine Left.ret ?_ | refine Left.normal ?_ | refine Left.here ?_ | refine Left.beyond (by decide) ?_ | refine Round.ret ?_ | refine Round.exit ?_
    | refine Wp.seq ?_ | refine Wp.region ?_ | refine Wp.block ?_ | refine Wp.scope ?_ | refine Wp.ret ?_ | refine Wp.skip ?_ | refine Wp.exit ?_
    | refine Ops.op (by simp ; first | done | rfl | exact ⟨rfl, rfl⟩) ?_ | refine Ops.op0 (by simp ; first | done | rfl | exact ⟨rfl, rfl⟩) ?_
    | refine Ops.gskip rfl (by decide) (by simp ; first | done | fail) ?_ | refine Ops.gop rfl (by decide) (by simp ; first | done | fail) (by simp ; first | done | rfl | exact ⟨rfl, rfl⟩) ?_
    | refine Wp.condT (by simp ; first | done | fail) ?_ | refine Wp.condF (by simp ; first | done | fail) ?_)
  refine Ops.gcall (args := []) rfl (by decide) (by simp) (by simp) ?_
  refine CallsA.prim h14 rfl ?_
  repeat (first
    | refine Ops.nil ?_ | refine Then.normal ?_ | refine Then.ret ?_ | refine Then.exit ?_ | refine Left.ret ?_ | refine Left.normal ?_ | refine Left.here ?_ | refine Left.beyond (by decide) ?_ | refine Round.ret ?_ | refine Round.exit ?_
    | refine Wp.seq ?_ | refine Wp.region ?_ | refine Wp.block ?_ | refine Wp.scope ?_ | refine Wp.ret ?_ | refine Wp.skip ?_ | refine Wp.exit ?_
    | refine Ops.op (by simp ; first | done | rfl | exact ⟨rfl, rfl⟩) ?_ | refine Ops.op0 (by simp ; first | done | rfl | exact ⟨rfl, rfl⟩) ?_
    | refine Ops.gskip rfl (by decide) (by simp ; first | done | fail) ?_ | refine Ops.gop rfl (by decide) (by simp ; first | done | fail) (by simp ; first | done | rfl | exact ⟨rfl, rfl⟩) ?_
    | refine Wp.condT (by simp ; first | done | fail) ?_ | refine Wp.condF (by simp ; first | done | fail) ?_)
  simp
end Go.Abs
