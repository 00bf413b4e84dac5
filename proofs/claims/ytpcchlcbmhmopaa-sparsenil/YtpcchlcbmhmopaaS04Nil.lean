/- Chapter 04: what is told of a file that there is none of. -/
import Derived.Test.YtpcchlcbmhmopaaS04Fact
namespace Go.Abs
open Go.Proofs
set_option maxRecDepth 100000
set_option linter.unusedVariables false
attribute [local simp] ev_tmp ev_const ofConst ofBasic setE_eq argEnv resultsA tupled tab_at opR_move opR_assign mvR_some opR_pick pickR_eq opR_bin binR_add binR_sub binR_mul binR_quo binR_rem binR_eql binR_neq binR_lss binR_leq binR_gtr binR_geq
  binR_nilnil_p binR_nilnil_pn binR_ptrnil binR_ptrniln binR_slnil binR_slniln binR_mapnil binR_mapniln opR_un unR_not opR_extract extractR_eq opR_nilCheck nilCheckR_eq opR_fieldAddr fieldAddrR_eq opR_load opR_store opR_box boxR_some opR_build opR_builtin
  len_slice len_mapnil min_two max_two mapOpt evParts firstT

variable {prims : Prims}

theorem size_nil (hp : prims 19 = none) (H : Heap) : CallsA Try.prog prims 19 [.ptr none] H fun v H' => v = .int .i64 0 ∧ H' = H := by
  refine CallsA.of Try.func19 hp rfl Try.ntmps19 (by simp) ?_
  repeat (first
    | refine Ops.nil ?_ | refine Then.normal ?_ | refine Then.ret ?_ | refine Left.ret ?_ | refine Left.normal ?_ | refine Wp.seq ?_ | refine Wp.region ?_ | refine Wp.block ?_ | refine Wp.ret ?_ | refine Wp.skip ?_
    | refine Ops.op (by simp; first | done | rfl | exact ⟨rfl, rfl⟩) ?_ | refine Wp.condT (by simp; done) ?_ | refine Wp.condF (by simp; done) ?_)
  simp [tab_at]

theorem blocks_nil (hp : prims 18 = none) (H : Heap) : CallsA Try.prog prims 18 [.ptr none] H fun v H' => v = .int .i64 0 ∧ H' = H := by
  refine CallsA.of Try.func18 hp rfl Try.ntmps18 (by simp) ?_
  repeat (first
    | refine Ops.nil ?_ | refine Then.normal ?_ | refine Then.ret ?_ | refine Left.ret ?_ | refine Left.normal ?_ | refine Wp.seq ?_ | refine Wp.region ?_ | refine Wp.block ?_ | refine Wp.ret ?_ | refine Wp.skip ?_
    | refine Ops.op (by simp; first | done | rfl | exact ⟨rfl, rfl⟩) ?_ | refine Wp.condT (by simp; done) ?_ | refine Wp.condF (by simp; done) ?_)
  simp [tab_at]

theorem has_nil (hp : prims 20 = none) (n : Int) (H : Heap) : CallsA Try.prog prims 20 [.ptr none, .int .i64 n] H fun v H' => v = .bool false ∧ H' = H := by
  refine CallsA.of Try.func20 hp rfl Try.ntmps20 (by simp) ?_
  repeat (first
    | refine Ops.nil ?_ | refine Then.normal ?_ | refine Then.ret ?_ | refine Left.ret ?_ | refine Left.normal ?_ | refine Wp.seq ?_ | refine Wp.region ?_ | refine Wp.block ?_ | refine Wp.ret ?_ | refine Wp.skip ?_
    | refine Ops.op (by simp; first | done | rfl | exact ⟨rfl, rfl⟩) ?_ | refine Ops.gskip rfl (by decide) (by simp; done) ?_ | refine Ops.gop rfl (by decide) (by simp; done) (by simp; first | done | rfl | exact ⟨rfl, rfl⟩) ?_ 
    | refine Wp.condT (by simp; done) ?_ | refine Wp.condF (by simp; done) ?_)
  simp [tab_at]

theorem write_nil (hp : prims 17 = none) (off : Int) (b : AV) (room : Int) (H : Heap) : CallsA Try.prog prims 17 [.ptr none, .int .i64 off, b, .int .i64 room] H fun v H' => v = .tuple [.int .i64 0, .int .i64 22] ∧ H' = H := by
  refine CallsA.of Try.func17 hp rfl Try.ntmps17 (by simp) ?_
  repeat (first
    | refine Ops.nil ?_ | refine Then.normal ?_ | refine Then.ret ?_ | refine Left.ret ?_ | refine Left.normal ?_ | refine Wp.seq ?_ | refine Wp.region ?_ | refine Wp.block ?_ | refine Wp.ret ?_ | refine Wp.skip ?_
    | refine Ops.op (by simp; first | done | rfl | exact ⟨rfl, rfl⟩) ?_ | refine Ops.gskip rfl (by decide) (by simp; done) ?_ | refine Ops.gop rfl (by decide) (by simp; done) (by simp; first | done | rfl | exact ⟨rfl, rfl⟩) ?_ 
    | refine Wp.condT (by simp; done) ?_ | refine Wp.condF (by simp; done) ?_)
  simp [tab_at]

theorem truncate_nil (hp : prims 16 = none) (n : Int) (H : Heap) : CallsA Try.prog prims 16 [.ptr none, .int .i64 n] H fun v H' => v = .tuple [.int .i64 0, .int .i64 22] ∧ H' = H := by
  refine CallsA.of Try.func16 hp rfl Try.ntmps16 (by simp) ?_
  repeat (first
    | refine Ops.nil ?_ | refine Then.normal ?_ | refine Then.ret ?_ | refine Left.ret ?_ | refine Left.normal ?_ | refine Wp.seq ?_ | refine Wp.region ?_ | refine Wp.block ?_ | refine Wp.ret ?_ | refine Wp.skip ?_
    | refine Ops.op (by simp; first | done | rfl | exact ⟨rfl, rfl⟩) ?_ | refine Ops.gskip rfl (by decide) (by simp; done) ?_ | refine Ops.gop rfl (by decide) (by simp; done) (by simp; first | done | rfl | exact ⟨rfl, rfl⟩) ?_ 
    | refine Wp.condT (by simp; done) ?_ | refine Wp.condF (by simp; done) ?_)
  simp [tab_at]
end Go.Abs
