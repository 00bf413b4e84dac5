/- What a piece of code comes to, step by step: the rules by which a body is walked in the abstract machine. -/
import Derived.Test.YtpcchlcbmhmopaaAbMono
namespace Go.Abs
set_option linter.unusedVariables false

def tab (N : Nat) (e : Nat → AV) : List AV := (List.range N).map e
def setE (e : Nat → AV) (d : Nat) (v : AV) (i : Nat) : AV := if i = d then v else e i
def setEO (e : Nat → AV) : Option Tmp → AV → Nat → AV
  | some d, v => setE e d v
  | none, _ => e

theorem setE_same (e : Nat → AV) (d : Nat) (v : AV) : setE e d v d = v := by simp [setE]
theorem setE_ne (e : Nat → AV) {d i : Nat} (v : AV) (h : i ≠ d) : setE e d v i = e i := by simp [setE, h]

theorem tab_len (N : Nat) (e : Nat → AV) : (tab N e).length = N := by simp [tab]
theorem tab_at {N i : Nat} (e : Nat → AV) (h : i < N) : (tab N e)[i]? = some (e i) := by simp [tab, h]
theorem tab_get {N i : Nat} (e : Nat → AV) (h : i < N) : (tab N e).getD i .undef = e i := by simp [tab, List.getD, h]
theorem tab_ext {T : List AV} {N : Nat} {e : Nat → AV} (hl : T.length = N) (h : ∀ i, i < N → T[i]? = some (e i)) : T = tab N e := by
  apply List.ext_getElem?
  intro i
  by_cases hi : i < N
  · rw [h i hi, tab_at e hi]
  · rw [List.getElem?_eq_none (by omega), List.getElem?_eq_none (by rw [tab_len]; omega)]
theorem tab_set (N : Nat) (e : Nat → AV) (d : Nat) (v : AV) : (tab N e).set d v = tab N (setE e d v) := by
  apply tab_ext
  · simp [tab_len]
  · intro i hi
    rw [List.getElem?_set]
    by_cases h : d = i
    · subst h; simp [tab_len, hi, setE]
    · rw [if_neg h, tab_at e hi, setE_ne e v (by omega)]
theorem put_tab (N : Nat) (e : Nat → AV) (d : Option Tmp) (v : AV) : put (tab N e) d v = tab N (setEO e d v) := by
  cases d with
  | none => rfl
  | some d => exact tab_set N e d v
theorem tab_of (T : List AV) : T = tab T.length fun i => T.getD i .undef := by
  apply tab_ext rfl
  intro i hi
  simp [List.getD, hi]

theorem ev_tmp {P : Program} {N i : Nat} {e : Nat → AV} (h : i < N) : ev P (tab N e) (.tmp i) = some (e i) := by simp only [ev, tab_get e h]

/-- The lengths of the temporaries stay. -/
theorem put_len (T : List AV) (d : Option Tmp) (v : AV) : (put T d v).length = T.length := by
  cases d <;> simp [put]

theorem runOps_len {P : Program} {c : CallFn} {ops : Array Oper} : ∀ {l : List Oper} {T : List AV} {H : Heap} {r : List AV × Heap}, runOps P c ops l T H = some r → r.1.length = T.length
  | [], T, H, r, h => by cases h; rfl
  | o :: os, T, H, r, h => by
    unfold runOps at h
    split at h
    · split at h
      · rw [runOps_len h, put_len]
      · cases h
    · rw [runOps_len h, put_len]

theorem dstep_len {P : Program} {c : CallFn} {ops : Array Oper} {b : Array Nat} {hv : List Nat} {n0 i : Nat} {s r : St} (h : dstep P c ops b hv n0 i s = some r) : r.T.length = s.T.length := by
  unfold dstep at h
  split at h
  · cases h
  · split at h
    · split at h
      · split at h
        · cases h; simp [put_len]
        · cases h
      · cases h; simp [put_len]
    · split at h
      · cases h; simp [put_len]
      · cases h

theorem drun_len {P : Program} {c : CallFn} {ops : Array Oper} {b : Array Nat} {hv : List Nat} {n0 : Nat} : ∀ {is : List Nat} {s r : St}, drun P c ops b hv n0 is s = some r → r.T.length = s.T.length
  | [], s, r, h => by cases h; rfl
  | i :: is, s, r, h => by
    unfold drun at h
    split at h
    · rename_i s' hs
      rw [drun_len h, dstep_len hs]
    · cases h

section
variable (P : Program) (prims : Prims) (N : Nat)

/-! ## what a call, a piece of code, a row of operations comes to -/
def CallsA (f : FuncId) (args : List AV) (H : Heap) (K : AV → Heap → Prop) : Prop :=
  ∃ n v H', acall P prims n f args H = some (v, H') ∧ K v H'

abbrev Post := AX → (Nat → AV) → Heap → Prop

def Wp (c : Code) (e : Nat → AV) (H : Heap) (Q : Post) : Prop :=
  ∃ n x e' H', runCode P (acall P prims n) n c (tab N e) H = some (x, tab N e', H') ∧ Q x e' H'

def Ops (ops : Array Oper) (l : List Oper) (e : Nat → AV) (H : Heap) (K : (Nat → AV) → Heap → Prop) : Prop :=
  ∃ n e' H', runOps P (acall P prims n) ops l (tab N e) H = some (tab N e', H') ∧ K e' H'

def OpR (o : Oper) (e : Nat → AV) (H : Heap) (K : AV → Heap → Prop) : Prop :=
  ∃ n v H', runOp P (acall P prims n) (tab N e) o H = some (v, H') ∧ K v H'

def noCall : CallFn := fun _ _ _ => none

theorem noCall_le (c : CallFn) : CLe noCall c := fun _ _ _ _ h => by cases h

variable {P prims N}

theorem CallsA.mono {f : FuncId} {args : List AV} {H : Heap} {K L : AV → Heap → Prop} (h : CallsA P prims f args H K) (hk : ∀ v H', K v H' → L v H') : CallsA P prims f args H L := by
  obtain ⟨n, v, H', hr, k⟩ := h
  exact ⟨n, v, H', hr, hk _ _ k⟩

theorem Wp.mono {c : Code} {e : Nat → AV} {H : Heap} {Q R : Post} (h : Wp P prims N c e H Q) (hk : ∀ x e' H', Q x e' H' → R x e' H') : Wp P prims N c e H R := by
  obtain ⟨n, x, e', H', hr, k⟩ := h
  exact ⟨n, x, e', H', hr, hk _ _ _ k⟩

theorem Wp.congr {c : Code} {e e' : Nat → AV} {H : Heap} {Q : Post} (he : ∀ i, i < N → e i = e' i) (h : Wp P prims N c e H Q) : Wp P prims N c e' H Q := by
  have : tab N e = tab N e' := by
    apply tab_ext (tab_len N e)
    intro i hi
    rw [tab_at e hi, he i hi]
  unfold Wp at h ⊢
  rw [← this]
  exact h

/-! ## code -/
theorem Wp.skip {e : Nat → AV} {H : Heap} {Q : Post} (h : Q .normal e H) : Wp P prims N .skip e H Q := ⟨0, .normal, e, H, rfl, h⟩
theorem Wp.ret {e : Nat → AV} {H : Heap} {Q : Post} (h : Q .ret e H) : Wp P prims N .ret e H Q := ⟨0, .ret, e, H, rfl, h⟩
theorem Wp.exit {id : Nat} {e : Nat → AV} {H : Heap} {Q : Post} (h : Q (.exit id) e H) : Wp P prims N (.exit id) e H Q := ⟨0, .exit id, e, H, rfl, h⟩
theorem Wp.scope {c : Code} {e : Nat → AV} {H : Heap} {Q : Post} (h : Wp P prims N c e H Q) : Wp P prims N (.scope c) e H Q := h

/-- What is wanted behind the first of two pieces. -/
def Then (P : Program) (prims : Prims) (N : Nat) (b : Code) (Q : Post) : Post
  | .normal, e, H => Wp P prims N b e H Q
  | .exit id, e, H => Q (.exit id) e H
  | .ret, e, H => Q .ret e H

theorem Wp.seq {a b : Code} {e : Nat → AV} {H : Heap} {Q : Post} (h : Wp P prims N a e H (Then P prims N b Q)) : Wp P prims N (.seq a b) e H Q := by
  obtain ⟨n, x, e', H', hr, k⟩ := h
  cases x with
  | normal =>
    obtain ⟨m, y, e'', H'', hr', k'⟩ := k
    refine ⟨max n m, y, e'', H'', ?_, k'⟩
    simp only [runCode]
    rw [runCode_le (acall_le (Nat.le_max_left n m)) (Nat.le_max_left n m) a _ _ _ hr]
    exact runCode_le (acall_le (Nat.le_max_right n m)) (Nat.le_max_right n m) b _ _ _ hr'
  | exit id => exact ⟨n, .exit id, e', H', by simp only [runCode, hr], k⟩
  | ret => exact ⟨n, .ret, e', H', by simp only [runCode, hr], k⟩

theorem Wp.cond {c : Operand} {x y : Code} {e : Nat → AV} {H : Heap} {Q : Post} {b : Bool} (hc : ev P (tab N e) c = some (.bool b))
    (hx : b = true → Wp P prims N x e H Q) (hy : b = false → Wp P prims N y e H Q) : Wp P prims N (.cond c x y) e H Q := by
  cases b with
  | true =>
    obtain ⟨n, r, e', H', hr, k⟩ := hx rfl
    exact ⟨n, r, e', H', by simp only [runCode, hc, hr], k⟩
  | false =>
    obtain ⟨n, r, e', H', hr, k⟩ := hy rfl
    exact ⟨n, r, e', H', by simp only [runCode, hc, hr], k⟩

theorem Wp.condT {c : Operand} {x y : Code} {e : Nat → AV} {H : Heap} {Q : Post} (hc : ev P (tab N e) c = some (.bool true))
    (hx : Wp P prims N x e H Q) : Wp P prims N (.cond c x y) e H Q := Wp.cond hc (fun _ => hx) fun h => by cases h

theorem Wp.condF {c : Operand} {x y : Code} {e : Nat → AV} {H : Heap} {Q : Post} (hc : ev P (tab N e) c = some (.bool false))
    (hy : Wp P prims N y e H Q) : Wp P prims N (.cond c x y) e H Q := Wp.cond hc (fun h => by cases h) fun _ => hy

theorem Wp.condD {c : Operand} {x y : Code} {e : Nat → AV} {H : Heap} {Q : Post} {p : Prop} [Decidable p] (hc : ev P (tab N e) c = some (.bool (decide p)))
    (hx : p → Wp P prims N x e H Q) (hy : ¬ p → Wp P prims N y e H Q) : Wp P prims N (.cond c x y) e H Q :=
  Wp.cond hc (fun h => hx (by simpa using h)) fun h => hy (by simpa using h)

/-- What is wanted behind a block's body. -/
def Left (id : Nat) (Q : Post) : Post
  | .exit id', e, H => if id' = id then Q .normal e H else Q (.exit id') e H
  | .normal, e, H => Q .normal e H
  | .ret, e, H => Q .ret e H

theorem Wp.block {id : Nat} {c : Code} {e : Nat → AV} {H : Heap} {Q : Post} (h : Wp P prims N c e H (Left id Q)) : Wp P prims N (.block id c) e H Q := by
  obtain ⟨n, x, e', H', hr, k⟩ := h
  cases x with
  | normal => exact ⟨n, .normal, e', H', by simp only [runCode, hr], k⟩
  | ret => exact ⟨n, .ret, e', H', by simp only [runCode, hr], k⟩
  | exit id' =>
    simp only [Left] at k
    by_cases hi : id' = id
    · rw [if_pos hi] at k
      exact ⟨n, .normal, e', H', by simp only [runCode, hr, if_pos hi], k⟩
    · rw [if_neg hi] at k
      exact ⟨n, .exit id', e', H', by simp only [runCode, hr, if_neg hi], k⟩

/-- What is wanted behind a round. -/
def Round (I : Nat → (Nat → AV) → Heap → Prop) (m : Nat) (Q : Post) : Post
  | .normal, e, H => ∃ m', m' < m ∧ I m' e H
  | .exit id, e, H => Q (.exit id) e H
  | .ret, e, H => Q .ret e H

theorem Wp.loop {c : Code} {Q : Post} (I : Nat → (Nat → AV) → Heap → Prop) (hround : ∀ m e H, I m e H → Wp P prims N c e H (Round I m Q)) :
    ∀ {m : Nat} {e : Nat → AV} {H : Heap}, I m e H → Wp P prims N (.loop c) e H Q := by
  intro m
  induction m using Nat.strongRecOn with
  | ind m ih =>
    intro e H hi
    obtain ⟨n, x, e', H', hr, k⟩ := hround m e H hi
    cases x with
    | normal =>
      obtain ⟨m', hm, hi'⟩ := k
      obtain ⟨n', y, e'', H'', hr', k'⟩ := ih m' hm hi'
      refine ⟨max n n' + 1, y, e'', H'', ?_, k'⟩
      show runLoop _ (max n n' + 1) _ _ = _
      unfold runLoop
      rw [runCode_le (acall_le (by omega : n ≤ max n n' + 1)) (by omega) c _ _ _ hr]
      exact runLoop_le (fun T H r h => runCode_le (acall_le (by omega : n' ≤ max n n' + 1)) (by omega) c T H r h) n' (max n n') (by omega) _ _ _ hr'
    | exit id =>
      refine ⟨n + 1, .exit id, e', H', ?_, k⟩
      show runLoop _ (n + 1) _ _ = _
      unfold runLoop
      rw [runCode_le (acall_le (by omega : n ≤ n + 1)) (by omega) c _ _ _ hr]
    | ret =>
      refine ⟨n + 1, .ret, e', H', ?_, k⟩
      show runLoop _ (n + 1) _ _ = _
      unfold runLoop
      rw [runCode_le (acall_le (by omega : n ≤ n + 1)) (by omega) c _ _ _ hr]

theorem Wp.region {id : Nat} {ops : Array Oper} {e : Nat → AV} {H : Heap} {Q : Post} (h : Ops P prims N ops ops.toList e H (Q .normal)) : Wp P prims N (.region id ops false) e H Q := by
  obtain ⟨n, e', H', hr, k⟩ := h
  refine ⟨n, .normal, e', H', ?_, k⟩
  simp only [runCode, runRegion, hr]
  rfl

/-! ## operations in their order -/
theorem Ops.nil {ops : Array Oper} {e : Nat → AV} {H : Heap} {K : (Nat → AV) → Heap → Prop} (h : K e H) : Ops P prims N ops [] e H K := ⟨0, e, H, rfl, h⟩

theorem Ops.cons {ops : Array Oper} {o : Oper} {os : List Oper} {e : Nat → AV} {H : Heap} {K : (Nat → AV) → Heap → Prop} (hg : wantedA ops (tab N e) o = true)
    (h : OpR P prims N o e H fun v H' => Ops P prims N ops os (setEO e o.dst v) H' K) : Ops P prims N ops (o :: os) e H K := by
  obtain ⟨n, v, H', hr, m, e', H'', hr', k⟩ := h
  refine ⟨max n m, e', H'', ?_, k⟩
  unfold runOps
  rw [if_pos hg, runOp_le (acall_le (Nat.le_max_left n m)) hr]
  simp only [put_tab]
  exact runOps_le (acall_le (Nat.le_max_right n m)) _ _ _ _ _ hr'

theorem Ops.unwanted {ops : Array Oper} {o : Oper} {os : List Oper} {e : Nat → AV} {H : Heap} {K : (Nat → AV) → Heap → Prop} (hg : wantedA ops (tab N e) o = false)
    (h : Ops P prims N ops os (setEO e o.dst .undef) H K) : Ops P prims N ops (o :: os) e H K := by
  obtain ⟨m, e', H'', hr', k⟩ := h
  refine ⟨m, e', H'', ?_, k⟩
  unfold runOps
  rw [if_neg (by simp [hg])]
  simp only [put_tab]
  exact hr'

theorem OpR.mk {o : Oper} {e : Nat → AV} {H : Heap} {K : AV → Heap → Prop} {v : AV} {H' : Heap} (h : runOp P noCall (tab N e) o H = some (v, H')) (k : K v H') : OpR P prims N o e H K :=
  ⟨0, v, H', runOp_le (noCall_le _) h, k⟩

/-- What an operation that is no call comes to. -/
def opR (P : Program) (N : Nat) (e : Nat → AV) (op : Op) (H : Heap) : Option (AV × Heap) :=
  match sem P noCall (tab N e) op with
  | some s => s.run H
  | none => none

/-- An operation that is no call, and not left out. -/
theorem Ops.op {ops : Array Oper} {d : Tmp} {op : Op} {t : TypeId} {pos : String} {after : Array Edge} {os : List Oper} {e : Nat → AV} {H : Heap} {K : (Nat → AV) → Heap → Prop} {v : AV} {H' : Heap}
    (hr : opR P N e op H = some (v, H')) (h : Ops P prims N ops os (setE e d v) H' K) : Ops P prims N ops ({ dst := some d, op := op, type := t, pos := pos, after := after, guard := none } :: os) e H K :=
  Ops.cons rfl (OpR.mk hr h)

theorem Ops.op0 {ops : Array Oper} {op : Op} {t : TypeId} {pos : String} {after : Array Edge} {os : List Oper} {e : Nat → AV} {H : Heap} {K : (Nat → AV) → Heap → Prop} {v : AV} {H' : Heap}
    (hr : opR P N e op H = some (v, H')) (h : Ops P prims N ops os e H' K) : Ops P prims N ops ({ dst := none, op := op, type := t, pos := pos, after := after, guard := none } :: os) e H K :=
  Ops.cons rfl (OpR.mk hr h)

/-- Where an operation's answer lies. -/
def yDst (ops : Array Oper) (j : Nat) : Option Tmp :=
  match ops[j]? with
  | some o => o.dst
  | none => none

theorem wanted_guard {ops : Array Oper} {o : Oper} {e : Nat → AV} {j : Nat} {want b : Bool} {d' : Tmp} (ho : o.guard = some (j, want)) (hj : yDst ops j = some d') (hN : d' < N) (hb : e d' = .bool b) :
    wantedA ops (tab N e) o = (b == want) := by
  unfold yDst at hj
  unfold wantedA yieldedA
  cases hq : ops[j]? with
  | none => rw [hq] at hj; cases hj
  | some q =>
    rw [hq] at hj
    simp only [] at hj
    simp [ho, hq, hj, tab_at e hN, hb]

/-- A guarded operation that is wanted. -/
theorem Ops.gop {ops : Array Oper} {d : Tmp} {op : Op} {t : TypeId} {pos : String} {after : Array Edge} {os : List Oper} {e : Nat → AV} {H : Heap} {K : (Nat → AV) → Heap → Prop} {v : AV} {H' : Heap} {j : Nat} {want : Bool} {d' : Tmp}
    (hj : yDst ops j = some d') (hN : d' < N) (hb : e d' = .bool want)
    (hr : opR P N e op H = some (v, H')) (h : Ops P prims N ops os (setE e d v) H' K) : Ops P prims N ops ({ dst := some d, op := op, type := t, pos := pos, after := after, guard := some (j, want) } :: os) e H K :=
  Ops.cons (by rw [wanted_guard rfl hj hN hb]; simp) (OpR.mk hr h)

theorem Ops.gop0 {ops : Array Oper} {op : Op} {t : TypeId} {pos : String} {after : Array Edge} {os : List Oper} {e : Nat → AV} {H : Heap} {K : (Nat → AV) → Heap → Prop} {v : AV} {H' : Heap} {j : Nat} {want : Bool} {d' : Tmp}
    (hj : yDst ops j = some d') (hN : d' < N) (hb : e d' = .bool want)
    (hr : opR P N e op H = some (v, H')) (h : Ops P prims N ops os e H' K) : Ops P prims N ops ({ dst := none, op := op, type := t, pos := pos, after := after, guard := some (j, want) } :: os) e H K :=
  Ops.cons (by rw [wanted_guard rfl hj hN hb]; simp) (OpR.mk hr h)

/-- A guarded operation that is not. -/
theorem Ops.gskip {ops : Array Oper} {d : Tmp} {op : Op} {t : TypeId} {pos : String} {after : Array Edge} {os : List Oper} {e : Nat → AV} {H : Heap} {K : (Nat → AV) → Heap → Prop} {j : Nat} {want : Bool} {d' : Tmp}
    (hj : yDst ops j = some d') (hN : d' < N) (hb : e d' = .bool !want)
    (h : Ops P prims N ops os (setE e d .undef) H K) : Ops P prims N ops ({ dst := some d, op := op, type := t, pos := pos, after := after, guard := some (j, want) } :: os) e H K :=
  Ops.unwanted (by rw [wanted_guard rfl hj hN hb]; simp) h

theorem Ops.gskip0 {ops : Array Oper} {op : Op} {t : TypeId} {pos : String} {after : Array Edge} {os : List Oper} {e : Nat → AV} {H : Heap} {K : (Nat → AV) → Heap → Prop} {j : Nat} {want : Bool} {d' : Tmp}
    (hj : yDst ops j = some d') (hN : d' < N) (hb : e d' = .bool !want)
    (h : Ops P prims N ops os e H K) : Ops P prims N ops ({ dst := none, op := op, type := t, pos := pos, after := after, guard := some (j, want) } :: os) e H K :=
  Ops.unwanted (by rw [wanted_guard rfl hj hN hb]; simp) h

theorem OpR.call {o : Oper} {c : Call} {e : Nat → AV} {H : Heap} {K : AV → Heap → Prop} {x : Operand} {f : FuncId} {first captured args : List AV} (ho : o.op = .call c) (hc : c.callee = .value x)
    (hf : ev P (tab N e) x = some (.func (.func f) first captured)) (ha : mapOpt (ev P (tab N e)) c.args.toList = some args)
    (h : CallsA P prims f (first ++ args ++ captured) H K) : OpR P prims N o e H K := by
  obtain ⟨n, v, H', hr, k⟩ := h
  refine ⟨n, v, H', ?_, k⟩
  simp only [runOp, ho, sem, callSem, ha, hc, hf, Sm.run, hr]

theorem Ops.call {ops : Array Oper} {d : Tmp} {xs : Array Operand} {ts : Array TypeId} {t : TypeId} {pos : String} {after : Array Edge} {os : List Oper} {e : Nat → AV} {H : Heap} {K : (Nat → AV) → Heap → Prop} {f : FuncId} {args : List AV}
    (ha : mapOpt (ev P (tab N e)) xs.toList = some args)
    (h : CallsA P prims f args H fun v H' => Ops P prims N ops os (setE e d v) H' K) :
    Ops P prims N ops ({ dst := some d, op := .call { callee := .value (.func f), args := xs, argTypes := ts }, type := t, pos := pos, after := after, guard := none } :: os) e H K := by
  refine Ops.cons rfl (OpR.call (first := []) (captured := []) rfl rfl rfl ha ?_)
  simp only [List.nil_append, List.append_nil]
  exact h

theorem Ops.gcall {ops : Array Oper} {d : Tmp} {xs : Array Operand} {ts : Array TypeId} {t : TypeId} {pos : String} {after : Array Edge} {os : List Oper} {e : Nat → AV} {H : Heap} {K : (Nat → AV) → Heap → Prop} {f : FuncId} {args : List AV} {j : Nat} {want : Bool} {d' : Tmp}
    (hj : yDst ops j = some d') (hN : d' < N) (hb : e d' = .bool want)
    (ha : mapOpt (ev P (tab N e)) xs.toList = some args)
    (h : CallsA P prims f args H fun v H' => Ops P prims N ops os (setE e d v) H' K) :
    Ops P prims N ops ({ dst := some d, op := .call { callee := .value (.func f), args := xs, argTypes := ts }, type := t, pos := pos, after := after, guard := some (j, want) } :: os) e H K := by
  refine Ops.cons (by rw [wanted_guard rfl hj hN hb]; simp) (OpR.call (first := []) (captured := []) rfl rfl rfl ha ?_)
  simp only [List.nil_append, List.append_nil]
  exact h

/-! ## what is wanted behind -/
theorem Then.normal {b : Code} {Q : Post} {e : Nat → AV} {H : Heap} (h : Wp P prims N b e H Q) : Then P prims N b Q .normal e H := h
theorem Then.exit {b : Code} {Q : Post} {e : Nat → AV} {H : Heap} {id : Nat} (h : Q (.exit id) e H) : Then P prims N b Q (.exit id) e H := h
theorem Then.ret {b : Code} {Q : Post} {e : Nat → AV} {H : Heap} (h : Q .ret e H) : Then P prims N b Q .ret e H := h
theorem Left.normal {id : Nat} {Q : Post} {e : Nat → AV} {H : Heap} (h : Q .normal e H) : Left id Q .normal e H := h
theorem Left.ret {id : Nat} {Q : Post} {e : Nat → AV} {H : Heap} (h : Q .ret e H) : Left id Q .ret e H := h
theorem Left.here {id : Nat} {Q : Post} {e : Nat → AV} {H : Heap} (h : Q .normal e H) : Left id Q (.exit id) e H := by simp only [Left, if_true]; exact h
theorem Left.beyond {id id' : Nat} {Q : Post} {e : Nat → AV} {H : Heap} (hi : id' ≠ id) (h : Q (.exit id') e H) : Left id Q (.exit id') e H := by simp only [Left, if_neg hi]; exact h
theorem Round.exit {I : Nat → (Nat → AV) → Heap → Prop} {m : Nat} {Q : Post} {e : Nat → AV} {H : Heap} {id : Nat} (h : Q (.exit id) e H) : Round I m Q (.exit id) e H := h
theorem Round.ret {I : Nat → (Nat → AV) → Heap → Prop} {m : Nat} {Q : Post} {e : Nat → AV} {H : Heap} (h : Q .ret e H) : Round I m Q .ret e H := h
theorem Round.normal {I : Nat → (Nat → AV) → Heap → Prop} {m : Nat} {Q : Post} {e : Nat → AV} {H : Heap} (m' : Nat) (hm : m' < m) (h : I m' e H) : Round I m Q .normal e H := ⟨m', hm, h⟩

/-- A prim's call. -/
theorem CallsA.prim {f : FuncId} {g : List AV → Heap → Option (AV × Heap)} {args : List AV} {H H' : Heap} {v : AV} {K : AV → Heap → Prop} (hp : prims f = some g) (h : g args H = some (v, H')) (k : K v H') : CallsA P prims f args H K := by
  refine ⟨1, v, H', ?_, k⟩
  unfold acall
  simp only [hp, h]

theorem opR_eq (P : Program) (N : Nat) (e : Nat → AV) (op : Op) (H : Heap) : opR P N e op H = match sem P noCall (tab N e) op with | some s => s.run H | none => none := rfl
theorem setE_eq (e : Nat → AV) (d : Nat) (v : AV) (i : Nat) : setE e d v i = if i = d then v else e i := rfl
theorem ev_const {P : Program} {T : List AV} {v : Value} : ev P T (.const v) = ofConst v := rfl

/-! ## a body -/
def argEnv (args : List AV) : Nat → AV := fun i => args.getD i .undef

theorem args_tab {args : List AV} (h : args.length ≤ N) : args ++ List.replicate (N - args.length) .undef = tab N (argEnv args) := by
  apply tab_ext
  · simp; omega
  · intro i hi
    by_cases hl : i < args.length
    · rw [List.getElem?_append_left hl]
      simp [argEnv, List.getD, hl]
    · rw [List.getElem?_append_right (by omega)]
      have : args[i]? = none := List.getElem?_eq_none (by omega)
      simp only [argEnv, List.getD, this]
      rw [List.getElem?_replicate, if_pos (by omega)]
      rfl

theorem CallsA.of {f : FuncId} {fn : Func} {c : Code} {args : List AV} {H : Heap} {K : AV → Heap → Prop} (hf : P.funcs[f]? = some fn) (hp : prims f = none) (hb : fn.body = some c) (hN : fn.ntmps = N)
    (hl : args.length ≤ N)
    (h : Wp P prims N c (argEnv args) H fun x e' H' => x ∈ [AX.normal, AX.ret] ∧ ∃ vs, resultsA P (tab N e') H' fn.results.toList = some vs ∧ K (tupled vs) H') : CallsA P prims f args H K := by
  obtain ⟨n, x, e', H', hr, hx, vs, hv, k⟩ := h
  refine ⟨n + 1, tupled vs, H', ?_, k⟩
  unfold acall
  simp only [hp, hf, runBody, hb, hN, args_tab hl, hr]
  cases x with
  | exit id => simp at hx
  | normal => simp only [hv]
  | ret => simp only [hv]

end
attribute [irreducible] CallsA Wp Ops OpR Then Left Round setE tab opR
end Go.Abs
