/- Texts on the abstract machine, joined. -/
import Derived.Test.YtpcchlcbmhmopaaKit05
import Derived.Test.YtpcchlcbmhmopaaKit02
import Derived.Below
import Derived.Carry
import Derived.Handed
import Derived.ChangeShapes
import Derived.WideShapes
import Derived.OpenShut
import Derived.ShutString
import Derived.ChangeOld

/- What a piece of code comes to, step by step: the rules by which a body is walked in the abstract machine. -/
namespace Go.Abs
set_option linter.unusedVariables false

def tab (N : Nat) (e : Nat → AV) : List AV := (List.range N).map e
def setE (e : Nat → AV) (d : Nat) (v : AV) (i : Nat) : AV := if i = d then v else e i
def setEO (e : Nat → AV) : Option Tmp → AV → Nat → AV
  | some d, v => setE e d v
  | none, _ => e

theorem setE_same (e : Nat → AV) (d : Nat) (v : AV) : setE e d v d = v := by simp [setE]
theorem setE_ne (e : Nat → AV) {d i : Nat} (v : AV) (h : i ≠ d) : setE e d v i = e i := by simp [setE, h]

theorem tab_len (N : Nat) (e : Nat → AV) : (tab N e).length = N := by simp [tab]
theorem tab_at {N i : Nat} (e : Nat → AV) (h : i < N) : (tab N e)[i]? = some (e i) := by simp [tab, h]
theorem tab_get {N i : Nat} (e : Nat → AV) (h : i < N) : (tab N e).getD i .undef = e i := by simp [tab, List.getD, h]
theorem tab_ext {T : List AV} {N : Nat} {e : Nat → AV} (hl : T.length = N) (h : ∀ i, i < N → T[i]? = some (e i)) : T = tab N e := by
  apply List.ext_getElem?
  intro i
  by_cases hi : i < N
  · rw [h i hi, tab_at e hi]
  · rw [List.getElem?_eq_none (by omega), List.getElem?_eq_none (by rw [tab_len]; omega)]
theorem tab_set (N : Nat) (e : Nat → AV) (d : Nat) (v : AV) : (tab N e).set d v = tab N (setE e d v) := by
  apply tab_ext
  · simp [tab_len]
  · intro i hi
    rw [List.getElem?_set]
    by_cases h : d = i
    · subst h; simp [tab_len, hi, setE]
    · rw [if_neg h, tab_at e hi, setE_ne e v (by omega)]
theorem put_tab (N : Nat) (e : Nat → AV) (d : Option Tmp) (v : AV) : put (tab N e) d v = tab N (setEO e d v) := by
  cases d with
  | none => rfl
  | some d => exact tab_set N e d v
theorem tab_of (T : List AV) : T = tab T.length fun i => T.getD i .undef := by
  apply tab_ext rfl
  intro i hi
  simp [List.getD, hi]

theorem ev_tmp {P : Program} {N i : Nat} {e : Nat → AV} (h : i < N) : ev P (tab N e) (.tmp i) = some (e i) := by simp only [ev, tab_get e h]

/-- The lengths of the temporaries stay. -/
theorem put_len (T : List AV) (d : Option Tmp) (v : AV) : (put T d v).length = T.length := by
  cases d <;> simp [put]

theorem runOps_len {P : Program} {c : CallFn} {ops : Array Oper} : ∀ {l : List Oper} {T : List AV} {H : Heap} {r : List AV × Heap}, runOps P c ops l T H = some r → r.1.length = T.length
  | [], T, H, r, h => by cases h; rfl
  | o :: os, T, H, r, h => by
    unfold runOps at h
    split at h
    · split at h
      · rw [runOps_len h, put_len]
      · cases h
    · rw [runOps_len h, put_len]

theorem dstep_len {P : Program} {c : CallFn} {ops : Array Oper} {b : Array Nat} {hv : List Nat} {n0 i : Nat} {s r : St} (h : dstep P c ops b hv n0 i s = some r) : r.T.length = s.T.length := by
  unfold dstep at h
  split at h
  · cases h
  · split at h
    · split at h
      · split at h
        · cases h; simp [put_len]
        · cases h
      · cases h; simp [put_len]
    · split at h
      · cases h; simp [put_len]
      · cases h

theorem drun_len {P : Program} {c : CallFn} {ops : Array Oper} {b : Array Nat} {hv : List Nat} {n0 : Nat} : ∀ {is : List Nat} {s r : St}, drun P c ops b hv n0 is s = some r → r.T.length = s.T.length
  | [], s, r, h => by cases h; rfl
  | i :: is, s, r, h => by
    unfold drun at h
    split at h
    · rename_i s' hs
      rw [drun_len h, dstep_len hs]
    · cases h

section
variable (P : Program) (prims : Prims) (N : Nat)

/-! ## what a call, a piece of code, a row of operations comes to -/
def CallsA (f : FuncId) (args : List AV) (H : Heap) (K : AV → Heap → Prop) : Prop :=
  ∃ n v H', acall P prims n f args H = some (v, H') ∧ K v H'

abbrev Post := AX → (Nat → AV) → Heap → Prop

def Wp (c : Code) (e : Nat → AV) (H : Heap) (Q : Post) : Prop :=
  ∃ n x e' H', runCode P (acall P prims n) n c (tab N e) H = some (x, tab N e', H') ∧ Q x e' H'

def Ops (ops : Array Oper) (l : List Oper) (e : Nat → AV) (H : Heap) (K : (Nat → AV) → Heap → Prop) : Prop :=
  ∃ n e' H', runOps P (acall P prims n) ops l (tab N e) H = some (tab N e', H') ∧ K e' H'

def OpR (o : Oper) (e : Nat → AV) (H : Heap) (K : AV → Heap → Prop) : Prop :=
  ∃ n v H', runOp P (acall P prims n) (tab N e) o H = some (v, H') ∧ K v H'

def noCall : CallFn := fun _ _ _ => none

theorem noCall_le (c : CallFn) : CLe noCall c := fun _ _ _ _ h => by cases h

variable {P prims N}

theorem CallsA.mono {f : FuncId} {args : List AV} {H : Heap} {K L : AV → Heap → Prop} (h : CallsA P prims f args H K) (hk : ∀ v H', K v H' → L v H') : CallsA P prims f args H L := by
  obtain ⟨n, v, H', hr, k⟩ := h
  exact ⟨n, v, H', hr, hk _ _ k⟩

theorem Wp.mono {c : Code} {e : Nat → AV} {H : Heap} {Q R : Post} (h : Wp P prims N c e H Q) (hk : ∀ x e' H', Q x e' H' → R x e' H') : Wp P prims N c e H R := by
  obtain ⟨n, x, e', H', hr, k⟩ := h
  exact ⟨n, x, e', H', hr, hk _ _ _ k⟩

theorem Wp.congr {c : Code} {e e' : Nat → AV} {H : Heap} {Q : Post} (he : ∀ i, i < N → e i = e' i) (h : Wp P prims N c e H Q) : Wp P prims N c e' H Q := by
  have : tab N e = tab N e' := by
    apply tab_ext (tab_len N e)
    intro i hi
    rw [tab_at e hi, he i hi]
  unfold Wp at h ⊢
  rw [← this]
  exact h

/-! ## code -/
theorem Wp.skip {e : Nat → AV} {H : Heap} {Q : Post} (h : Q .normal e H) : Wp P prims N .skip e H Q := ⟨0, .normal, e, H, rfl, h⟩
theorem Wp.ret {e : Nat → AV} {H : Heap} {Q : Post} (h : Q .ret e H) : Wp P prims N .ret e H Q := ⟨0, .ret, e, H, rfl, h⟩
theorem Wp.exit {id : Nat} {e : Nat → AV} {H : Heap} {Q : Post} (h : Q (.exit id) e H) : Wp P prims N (.exit id) e H Q := ⟨0, .exit id, e, H, rfl, h⟩
theorem Wp.scope {c : Code} {e : Nat → AV} {H : Heap} {Q : Post} (h : Wp P prims N c e H Q) : Wp P prims N (.scope c) e H Q := h

/-- What is wanted behind the first of two pieces. -/
def Then (P : Program) (prims : Prims) (N : Nat) (b : Code) (Q : Post) : Post
  | .normal, e, H => Wp P prims N b e H Q
  | .exit id, e, H => Q (.exit id) e H
  | .ret, e, H => Q .ret e H

theorem Wp.seq {a b : Code} {e : Nat → AV} {H : Heap} {Q : Post} (h : Wp P prims N a e H (Then P prims N b Q)) : Wp P prims N (.seq a b) e H Q := by
  obtain ⟨n, x, e', H', hr, k⟩ := h
  cases x with
  | normal =>
    obtain ⟨m, y, e'', H'', hr', k'⟩ := k
    refine ⟨max n m, y, e'', H'', ?_, k'⟩
    simp only [runCode]
    rw [runCode_le (acall_le (Nat.le_max_left n m)) (Nat.le_max_left n m) a _ _ _ hr]
    exact runCode_le (acall_le (Nat.le_max_right n m)) (Nat.le_max_right n m) b _ _ _ hr'
  | exit id => exact ⟨n, .exit id, e', H', by simp only [runCode, hr], k⟩
  | ret => exact ⟨n, .ret, e', H', by simp only [runCode, hr], k⟩

theorem Wp.cond {c : Operand} {x y : Code} {e : Nat → AV} {H : Heap} {Q : Post} {b : Bool} (hc : ev P (tab N e) c = some (.bool b))
    (hx : b = true → Wp P prims N x e H Q) (hy : b = false → Wp P prims N y e H Q) : Wp P prims N (.cond c x y) e H Q := by
  cases b with
  | true =>
    obtain ⟨n, r, e', H', hr, k⟩ := hx rfl
    exact ⟨n, r, e', H', by simp only [runCode, hc, hr], k⟩
  | false =>
    obtain ⟨n, r, e', H', hr, k⟩ := hy rfl
    exact ⟨n, r, e', H', by simp only [runCode, hc, hr], k⟩

theorem Wp.condT {c : Operand} {x y : Code} {e : Nat → AV} {H : Heap} {Q : Post} (hc : ev P (tab N e) c = some (.bool true))
    (hx : Wp P prims N x e H Q) : Wp P prims N (.cond c x y) e H Q := Wp.cond hc (fun _ => hx) fun h => by cases h

theorem Wp.condF {c : Operand} {x y : Code} {e : Nat → AV} {H : Heap} {Q : Post} (hc : ev P (tab N e) c = some (.bool false))
    (hy : Wp P prims N y e H Q) : Wp P prims N (.cond c x y) e H Q := Wp.cond hc (fun h => by cases h) fun _ => hy

theorem Wp.condD {c : Operand} {x y : Code} {e : Nat → AV} {H : Heap} {Q : Post} {p : Prop} [Decidable p] (hc : ev P (tab N e) c = some (.bool (decide p)))
    (hx : p → Wp P prims N x e H Q) (hy : ¬ p → Wp P prims N y e H Q) : Wp P prims N (.cond c x y) e H Q :=
  Wp.cond hc (fun h => hx (by simpa using h)) fun h => hy (by simpa using h)

/-- What is wanted behind a block's body. -/
def Left (id : Nat) (Q : Post) : Post
  | .exit id', e, H => if id' = id then Q .normal e H else Q (.exit id') e H
  | .normal, e, H => Q .normal e H
  | .ret, e, H => Q .ret e H

theorem Wp.block {id : Nat} {c : Code} {e : Nat → AV} {H : Heap} {Q : Post} (h : Wp P prims N c e H (Left id Q)) : Wp P prims N (.block id c) e H Q := by
  obtain ⟨n, x, e', H', hr, k⟩ := h
  cases x with
  | normal => exact ⟨n, .normal, e', H', by simp only [runCode, hr], k⟩
  | ret => exact ⟨n, .ret, e', H', by simp only [runCode, hr], k⟩
  | exit id' =>
    simp only [Left] at k
    by_cases hi : id' = id
    · rw [if_pos hi] at k
      exact ⟨n, .normal, e', H', by simp only [runCode, hr, if_pos hi], k⟩
    · rw [if_neg hi] at k
      exact ⟨n, .exit id', e', H', by simp only [runCode, hr, if_neg hi], k⟩

/-- What is wanted behind a round. -/
def Round (I : Nat → (Nat → AV) → Heap → Prop) (m : Nat) (Q : Post) : Post
  | .normal, e, H => ∃ m', m' < m ∧ I m' e H
  | .exit id, e, H => Q (.exit id) e H
  | .ret, e, H => Q .ret e H

theorem Wp.loop {c : Code} {Q : Post} (I : Nat → (Nat → AV) → Heap → Prop) (hround : ∀ m e H, I m e H → Wp P prims N c e H (Round I m Q)) :
    ∀ {m : Nat} {e : Nat → AV} {H : Heap}, I m e H → Wp P prims N (.loop c) e H Q := by
  intro m
  induction m using Nat.strongRecOn with
  | ind m ih =>
    intro e H hi
    obtain ⟨n, x, e', H', hr, k⟩ := hround m e H hi
    cases x with
    | normal =>
      obtain ⟨m', hm, hi'⟩ := k
      obtain ⟨n', y, e'', H'', hr', k'⟩ := ih m' hm hi'
      refine ⟨max n n' + 1, y, e'', H'', ?_, k'⟩
      show runLoop _ (max n n' + 1) _ _ = _
      unfold runLoop
      rw [runCode_le (acall_le (by omega : n ≤ max n n' + 1)) (by omega) c _ _ _ hr]
      exact runLoop_le (fun T H r h => runCode_le (acall_le (by omega : n' ≤ max n n' + 1)) (by omega) c T H r h) n' (max n n') (by omega) _ _ _ hr'
    | exit id =>
      refine ⟨n + 1, .exit id, e', H', ?_, k⟩
      show runLoop _ (n + 1) _ _ = _
      unfold runLoop
      rw [runCode_le (acall_le (by omega : n ≤ n + 1)) (by omega) c _ _ _ hr]
    | ret =>
      refine ⟨n + 1, .ret, e', H', ?_, k⟩
      show runLoop _ (n + 1) _ _ = _
      unfold runLoop
      rw [runCode_le (acall_le (by omega : n ≤ n + 1)) (by omega) c _ _ _ hr]

theorem Wp.region {id : Nat} {ops : Array Oper} {e : Nat → AV} {H : Heap} {Q : Post} (h : Ops P prims N ops ops.toList e H (Q .normal)) : Wp P prims N (.region id ops false) e H Q := by
  obtain ⟨n, e', H', hr, k⟩ := h
  refine ⟨n, .normal, e', H', ?_, k⟩
  simp only [runCode, runRegion, hr]
  rfl

/-! ## operations in their order -/
theorem Ops.nil {ops : Array Oper} {e : Nat → AV} {H : Heap} {K : (Nat → AV) → Heap → Prop} (h : K e H) : Ops P prims N ops [] e H K := ⟨0, e, H, rfl, h⟩

theorem Ops.cons {ops : Array Oper} {o : Oper} {os : List Oper} {e : Nat → AV} {H : Heap} {K : (Nat → AV) → Heap → Prop} (hg : wantedA ops (tab N e) o = true)
    (h : OpR P prims N o e H fun v H' => Ops P prims N ops os (setEO e o.dst v) H' K) : Ops P prims N ops (o :: os) e H K := by
  obtain ⟨n, v, H', hr, m, e', H'', hr', k⟩ := h
  refine ⟨max n m, e', H'', ?_, k⟩
  unfold runOps
  rw [if_pos hg, runOp_le (acall_le (Nat.le_max_left n m)) hr]
  simp only [put_tab]
  exact runOps_le (acall_le (Nat.le_max_right n m)) _ _ _ _ _ hr'

theorem Ops.unwanted {ops : Array Oper} {o : Oper} {os : List Oper} {e : Nat → AV} {H : Heap} {K : (Nat → AV) → Heap → Prop} (hg : wantedA ops (tab N e) o = false)
    (h : Ops P prims N ops os (setEO e o.dst .undef) H K) : Ops P prims N ops (o :: os) e H K := by
  obtain ⟨m, e', H'', hr', k⟩ := h
  refine ⟨m, e', H'', ?_, k⟩
  unfold runOps
  rw [if_neg (by simp [hg])]
  simp only [put_tab]
  exact hr'

theorem OpR.mk {o : Oper} {e : Nat → AV} {H : Heap} {K : AV → Heap → Prop} {v : AV} {H' : Heap} (h : runOp P noCall (tab N e) o H = some (v, H')) (k : K v H') : OpR P prims N o e H K :=
  ⟨0, v, H', runOp_le (noCall_le _) h, k⟩

/-- What an operation that is no call comes to. -/
def opR (P : Program) (N : Nat) (e : Nat → AV) (op : Op) (H : Heap) : Option (AV × Heap) :=
  match sem P noCall (tab N e) op with
  | some s => s.run H
  | none => none

/-- An operation that is no call, and not left out. -/
theorem Ops.op {ops : Array Oper} {d : Tmp} {op : Op} {t : TypeId} {pos : String} {after : Array Edge} {os : List Oper} {e : Nat → AV} {H : Heap} {K : (Nat → AV) → Heap → Prop} {v : AV} {H' : Heap}
    (hr : opR P N e op H = some (v, H')) (h : Ops P prims N ops os (setE e d v) H' K) : Ops P prims N ops ({ dst := some d, op := op, type := t, pos := pos, after := after, guard := none } :: os) e H K :=
  Ops.cons rfl (OpR.mk hr h)

theorem Ops.op0 {ops : Array Oper} {op : Op} {t : TypeId} {pos : String} {after : Array Edge} {os : List Oper} {e : Nat → AV} {H : Heap} {K : (Nat → AV) → Heap → Prop} {v : AV} {H' : Heap}
    (hr : opR P N e op H = some (v, H')) (h : Ops P prims N ops os e H' K) : Ops P prims N ops ({ dst := none, op := op, type := t, pos := pos, after := after, guard := none } :: os) e H K :=
  Ops.cons rfl (OpR.mk hr h)

/-- Where an operation's answer lies. -/
def yDst (ops : Array Oper) (j : Nat) : Option Tmp :=
  match ops[j]? with
  | some o => o.dst
  | none => none

theorem wanted_guard {ops : Array Oper} {o : Oper} {e : Nat → AV} {j : Nat} {want b : Bool} {d' : Tmp} (ho : o.guard = some (j, want)) (hj : yDst ops j = some d') (hN : d' < N) (hb : e d' = .bool b) :
    wantedA ops (tab N e) o = (b == want) := by
  unfold yDst at hj
  unfold wantedA yieldedA
  cases hq : ops[j]? with
  | none => rw [hq] at hj; cases hj
  | some q =>
    rw [hq] at hj
    simp only [] at hj
    simp [ho, hq, hj, tab_at e hN, hb]

/-- A guarded operation that is wanted. -/
theorem Ops.gop {ops : Array Oper} {d : Tmp} {op : Op} {t : TypeId} {pos : String} {after : Array Edge} {os : List Oper} {e : Nat → AV} {H : Heap} {K : (Nat → AV) → Heap → Prop} {v : AV} {H' : Heap} {j : Nat} {want : Bool} {d' : Tmp}
    (hj : yDst ops j = some d') (hN : d' < N) (hb : e d' = .bool want)
    (hr : opR P N e op H = some (v, H')) (h : Ops P prims N ops os (setE e d v) H' K) : Ops P prims N ops ({ dst := some d, op := op, type := t, pos := pos, after := after, guard := some (j, want) } :: os) e H K :=
  Ops.cons (by rw [wanted_guard rfl hj hN hb]; simp) (OpR.mk hr h)

theorem Ops.gop0 {ops : Array Oper} {op : Op} {t : TypeId} {pos : String} {after : Array Edge} {os : List Oper} {e : Nat → AV} {H : Heap} {K : (Nat → AV) → Heap → Prop} {v : AV} {H' : Heap} {j : Nat} {want : Bool} {d' : Tmp}
    (hj : yDst ops j = some d') (hN : d' < N) (hb : e d' = .bool want)
    (hr : opR P N e op H = some (v, H')) (h : Ops P prims N ops os e H' K) : Ops P prims N ops ({ dst := none, op := op, type := t, pos := pos, after := after, guard := some (j, want) } :: os) e H K :=
  Ops.cons (by rw [wanted_guard rfl hj hN hb]; simp) (OpR.mk hr h)

/-- A guarded operation that is not. -/
theorem Ops.gskip {ops : Array Oper} {d : Tmp} {op : Op} {t : TypeId} {pos : String} {after : Array Edge} {os : List Oper} {e : Nat → AV} {H : Heap} {K : (Nat → AV) → Heap → Prop} {j : Nat} {want : Bool} {d' : Tmp}
    (hj : yDst ops j = some d') (hN : d' < N) (hb : e d' = .bool !want)
    (h : Ops P prims N ops os (setE e d .undef) H K) : Ops P prims N ops ({ dst := some d, op := op, type := t, pos := pos, after := after, guard := some (j, want) } :: os) e H K :=
  Ops.unwanted (by rw [wanted_guard rfl hj hN hb]; simp) h

theorem Ops.gskip0 {ops : Array Oper} {op : Op} {t : TypeId} {pos : String} {after : Array Edge} {os : List Oper} {e : Nat → AV} {H : Heap} {K : (Nat → AV) → Heap → Prop} {j : Nat} {want : Bool} {d' : Tmp}
    (hj : yDst ops j = some d') (hN : d' < N) (hb : e d' = .bool !want)
    (h : Ops P prims N ops os e H K) : Ops P prims N ops ({ dst := none, op := op, type := t, pos := pos, after := after, guard := some (j, want) } :: os) e H K :=
  Ops.unwanted (by rw [wanted_guard rfl hj hN hb]; simp) h

theorem OpR.call {o : Oper} {c : Call} {e : Nat → AV} {H : Heap} {K : AV → Heap → Prop} {x : Operand} {f : FuncId} {first captured args : List AV} (ho : o.op = .call c) (hc : c.callee = .value x)
    (hf : ev P (tab N e) x = some (.func (.func f) first captured)) (ha : mapOpt (ev P (tab N e)) c.args.toList = some args)
    (h : CallsA P prims f (first ++ args ++ captured) H K) : OpR P prims N o e H K := by
  obtain ⟨n, v, H', hr, k⟩ := h
  refine ⟨n, v, H', ?_, k⟩
  simp only [runOp, ho, sem, callSem, ha, hc, hf, Sm.run, hr]

theorem Ops.call {ops : Array Oper} {d : Tmp} {xs : Array Operand} {ts : Array TypeId} {t : TypeId} {pos : String} {after : Array Edge} {os : List Oper} {e : Nat → AV} {H : Heap} {K : (Nat → AV) → Heap → Prop} {f : FuncId} {args : List AV}
    (ha : mapOpt (ev P (tab N e)) xs.toList = some args)
    (h : CallsA P prims f args H fun v H' => Ops P prims N ops os (setE e d v) H' K) :
    Ops P prims N ops ({ dst := some d, op := .call { callee := .value (.func f), args := xs, argTypes := ts }, type := t, pos := pos, after := after, guard := none } :: os) e H K := by
  refine Ops.cons rfl (OpR.call (first := []) (captured := []) rfl rfl rfl ha ?_)
  simp only [List.nil_append, List.append_nil]
  exact h

theorem Ops.gcall {ops : Array Oper} {d : Tmp} {xs : Array Operand} {ts : Array TypeId} {t : TypeId} {pos : String} {after : Array Edge} {os : List Oper} {e : Nat → AV} {H : Heap} {K : (Nat → AV) → Heap → Prop} {f : FuncId} {args : List AV} {j : Nat} {want : Bool} {d' : Tmp}
    (hj : yDst ops j = some d') (hN : d' < N) (hb : e d' = .bool want)
    (ha : mapOpt (ev P (tab N e)) xs.toList = some args)
    (h : CallsA P prims f args H fun v H' => Ops P prims N ops os (setE e d v) H' K) :
    Ops P prims N ops ({ dst := some d, op := .call { callee := .value (.func f), args := xs, argTypes := ts }, type := t, pos := pos, after := after, guard := some (j, want) } :: os) e H K := by
  refine Ops.cons (by rw [wanted_guard rfl hj hN hb]; simp) (OpR.call (first := []) (captured := []) rfl rfl rfl ha ?_)
  simp only [List.nil_append, List.append_nil]
  exact h

/-! ## what is wanted behind -/
theorem Then.normal {b : Code} {Q : Post} {e : Nat → AV} {H : Heap} (h : Wp P prims N b e H Q) : Then P prims N b Q .normal e H := h
theorem Then.exit {b : Code} {Q : Post} {e : Nat → AV} {H : Heap} {id : Nat} (h : Q (.exit id) e H) : Then P prims N b Q (.exit id) e H := h
theorem Then.ret {b : Code} {Q : Post} {e : Nat → AV} {H : Heap} (h : Q .ret e H) : Then P prims N b Q .ret e H := h
theorem Left.normal {id : Nat} {Q : Post} {e : Nat → AV} {H : Heap} (h : Q .normal e H) : Left id Q .normal e H := h
theorem Left.ret {id : Nat} {Q : Post} {e : Nat → AV} {H : Heap} (h : Q .ret e H) : Left id Q .ret e H := h
theorem Left.here {id : Nat} {Q : Post} {e : Nat → AV} {H : Heap} (h : Q .normal e H) : Left id Q (.exit id) e H := by simp only [Left, if_true]; exact h
theorem Left.beyond {id id' : Nat} {Q : Post} {e : Nat → AV} {H : Heap} (hi : id' ≠ id) (h : Q (.exit id') e H) : Left id Q (.exit id') e H := by simp only [Left, if_neg hi]; exact h
theorem Round.exit {I : Nat → (Nat → AV) → Heap → Prop} {m : Nat} {Q : Post} {e : Nat → AV} {H : Heap} {id : Nat} (h : Q (.exit id) e H) : Round I m Q (.exit id) e H := h
theorem Round.ret {I : Nat → (Nat → AV) → Heap → Prop} {m : Nat} {Q : Post} {e : Nat → AV} {H : Heap} (h : Q .ret e H) : Round I m Q .ret e H := h
theorem Round.normal {I : Nat → (Nat → AV) → Heap → Prop} {m : Nat} {Q : Post} {e : Nat → AV} {H : Heap} (m' : Nat) (hm : m' < m) (h : I m' e H) : Round I m Q .normal e H := ⟨m', hm, h⟩

/-- A prim's call. -/
theorem CallsA.prim {f : FuncId} {g : List AV → Heap → Option (AV × Heap)} {args : List AV} {H H' : Heap} {v : AV} {K : AV → Heap → Prop} (hp : prims f = some g) (h : g args H = some (v, H')) (k : K v H') : CallsA P prims f args H K := by
  refine ⟨1, v, H', ?_, k⟩
  unfold acall
  simp only [hp, h]

theorem opR_eq (P : Program) (N : Nat) (e : Nat → AV) (op : Op) (H : Heap) : opR P N e op H = match sem P noCall (tab N e) op with | some s => s.run H | none => none := rfl
theorem setE_eq (e : Nat → AV) (d : Nat) (v : AV) (i : Nat) : setE e d v i = if i = d then v else e i := rfl
theorem ev_const {P : Program} {T : List AV} {v : Value} : ev P T (.const v) = ofConst v := rfl

/-! ## a body -/
def argEnv (args : List AV) : Nat → AV := fun i => args.getD i .undef

theorem args_tab {args : List AV} (h : args.length ≤ N) : args ++ List.replicate (N - args.length) .undef = tab N (argEnv args) := by
  apply tab_ext
  · simp; omega
  · intro i hi
    by_cases hl : i < args.length
    · rw [List.getElem?_append_left hl]
      simp [argEnv, List.getD, hl]
    · rw [List.getElem?_append_right (by omega)]
      have : args[i]? = none := List.getElem?_eq_none (by omega)
      simp only [argEnv, List.getD, this]
      rw [List.getElem?_replicate, if_pos (by omega)]
      rfl

theorem CallsA.of {f : FuncId} {fn : Func} {c : Code} {args : List AV} {H : Heap} {K : AV → Heap → Prop} (hf : P.funcs[f]? = some fn) (hp : prims f = none) (hb : fn.body = some c) (hN : fn.ntmps = N)
    (hl : args.length ≤ N)
    (h : Wp P prims N c (argEnv args) H fun x e' H' => x ∈ [AX.normal, AX.ret] ∧ ∃ vs, resultsA P (tab N e') H' fn.results.toList = some vs ∧ K (tupled vs) H') : CallsA P prims f args H K := by
  obtain ⟨n, x, e', H', hr, hx, vs, hv, k⟩ := h
  refine ⟨n + 1, tupled vs, H', ?_, k⟩
  unfold acall
  simp only [hp, hf, runBody, hb, hN, args_tab hl, hr]
  cases x with
  | exit id => simp at hx
  | normal => simp only [hv]
  | ret => simp only [hv]

end
attribute [irreducible] CallsA Wp Ops OpR Then Left Round setE tab opR
end Go.Abs

/- A law that answers true: what the abstract machine says of it is what its row says. -/
namespace Go.Abs
open Go.ChangeShapes Go.WideShapes Go.RowKit
set_option linter.unusedVariables false

/-- What is known of an argument. -/
def PicV (P : Program) (H : Heap) (n : Nat) (t : TypeId) (a : AV) : Prop :=
  match P.underlying t with
  | some (.struct _) | some (.array _ _) => ∃ cs, a = .agg cs ∧ Pic P H n t cs
  | _ => Pic P H n t [a]

def PicAll (P : Program) (H : Heap) (n : Nat) : List TypeId → List AV → Prop
  | [], as => as = []
  | t :: ts, as => ∃ a r, as = a :: r ∧ PicV P H n t a ∧ PicAll P H n ts r

theorem PicV.mono {P : Program} {H H' : Heap} (h : HExt H H') {n : Nat} {t : TypeId} {a : AV} (hp : PicV P H n t a) : PicV P H' n t a := by
  unfold PicV at hp ⊢
  split at hp
  · obtain ⟨cs, e, hp⟩ := hp; exact ⟨cs, e, Pic.mono h _ _ _ hp⟩
  · obtain ⟨cs, e, hp⟩ := hp; exact ⟨cs, e, Pic.mono h _ _ _ hp⟩
  · exact Pic.mono h _ _ _ hp

section
variable {D : Type} {enc : TypeId × Value → D} {P : Program} {w : World}

theorem value_read {n : Nat} {t : TypeId} {v : Value} {d : DataW D} {ps : List MemPlace} {base : Nat} (hr : readable P n t = true) (hok : Value.okWide P w .any base t v)
    (h : DataW.Trod enc P w 0 (fun _ => true) true t v d ps) (ρ : Map) (H : Heap) (hi : Held P.globals.size ρ H w) (hG : P.globals.size ≤ H.next) :
    ∃ ρ' H' a, Held P.globals.size ρ' H' w ∧ Ext ρ ρ' ∧ HExt H H' ∧ VRel ρ' a v ∧ PicV P H' n t a := by
  obtain ⟨fuel, hf⟩ := h
  obtain ⟨ρ', H', acs, i1, e1, x1, v1, p1⟩ := reads_ok n t _ fuel _ hr hf ρ H hi hG
  have single : (∀ cs, v ≠ .agg cs) → ∃ a, acs = [a] ∧ VRel ρ' a v := by
    intro hv
    have : v.cells.toList = [v] := by
      cases v <;> first | rfl | exact absurd rfl (hv _)
    rw [this] at v1
    cases acs with
    | nil => simp [VRels] at v1
    | cons a r =>
      obtain ⟨y, ys, e, h1, h2⟩ := v1
      injection e with e2 e3
      subst e2; subst e3
      cases r with
      | nil => exact ⟨a, rfl, h1⟩
      | cons b r => obtain ⟨_, _, e, _⟩ := h2; cases e
  have agg : (∃ cs, v = .agg cs) → VRel ρ' (.agg acs) v := by
    rintro ⟨cs, rfl⟩
    exact ⟨cs, rfl, v1⟩
  cases n with
  | zero => cases hr
  | succ n =>
    unfold readable at hr
    unfold PicV
    unfold Value.okWide at hok
    split at hr
    · rename_i hu
      simp only [hu] at hok ⊢
      obtain ⟨a, rfl, ha⟩ := single (by intro cs e; subst e; simp [Cell.okWide, Cell.ok, hu] at hok)
      exact ⟨ρ', H', a, i1, e1, x1, ha, p1⟩
    · rename_i hu
      simp only [hu] at hok ⊢
      obtain ⟨a, rfl, ha⟩ := single (by intro cs e; subst e; simp [Cell.okWide, Cell.ok, hu] at hok)
      exact ⟨ρ', H', a, i1, e1, x1, ha, p1⟩
    · rename_i hu
      simp only [hu] at hok ⊢
      obtain ⟨a, rfl, ha⟩ := single (by intro cs e; subst e; simp [Cell.okWide, Cell.ok, hu] at hok)
      exact ⟨ρ', H', a, i1, e1, x1, ha, p1⟩
    · rename_i hu
      simp only [hu] at hok ⊢
      obtain ⟨a, rfl, ha⟩ := single (by intro cs e; subst e; simp [Cell.okWide, Cell.ok, hu] at hok)
      exact ⟨ρ', H', a, i1, e1, x1, ha, p1⟩
    · rename_i hu
      simp only [hu] at hok ⊢
      obtain ⟨cs, e, _⟩ := hok
      exact ⟨ρ', H', _, i1, e1, x1, agg ⟨cs, e⟩, acs, rfl, p1⟩
    · rename_i hu
      simp only [hu] at hok ⊢
      obtain ⟨cs, e, _⟩ := hok
      exact ⟨ρ', H', _, i1, e1, x1, agg ⟨cs, e⟩, acs, rfl, p1⟩
    · cases hr

theorem values_read {n : Nat} {base : Nat} : ∀ (ts : List TypeId) (vs : List Value) (ds : List (DataW D)) (ps : List MemPlace), (∀ t ∈ ts, readable P n t = true) →
    (∀ (j : Nat) t v, ts[j]? = some t → vs[j]? = some v → Value.okWide P w .any base t v) → DataW.TrodAll enc P w 0 (fun _ => true) true ts vs ds ps →
    ∀ (ρ : Map) (H : Heap), Held P.globals.size ρ H w → P.globals.size ≤ H.next →
    ∃ ρ' H' as, Held P.globals.size ρ' H' w ∧ Ext ρ ρ' ∧ HExt H H' ∧ VRels ρ' as vs ∧ PicAll P H' n ts as
  | [], vs, ds, ps, _, _, hA, ρ, H, hi, hG => by
    obtain ⟨rfl, rfl, rfl⟩ := trodAll_nil hA
    exact ⟨ρ, H, [], hi, Ext.refl ρ, HExt.refl H, rfl, rfl⟩
  | t :: ts, vs, ds, ps, hr, hval, hA, ρ, H, hi, hG => by
    obtain ⟨v, vs', d, ds', p, q, rfl, rfl, rfl, h0, hA'⟩ := trodAll_cons hA
    obtain ⟨ρ1, H1, a, i1, e1, x1, v1, p1⟩ := value_read (hr t (by simp)) (hval 0 t v rfl rfl) h0 ρ H hi hG
    obtain ⟨ρ2, H2, as, i2, e2, x2, v2, p2⟩ := values_read ts vs' ds' q (fun t h => hr t (by simp [h])) (fun j t v h g => hval (j + 1) t v (by simpa using h) (by simpa using g)) hA' ρ1 H1 i1 (Nat.le_trans hG x1.1)
    exact ⟨ρ2, H2, a :: as, i2, e1.trans e2, x1.trans x2, ⟨v, vs', rfl, VRel.mono e2 _ _ v1, v2⟩, a, as, rfl, p1.mono x2, p2⟩

theorem start_inv (G : Nat) (w : World) : Held G (fun g => if g < G then some ⟨g, 0, 0⟩ else none) (Heap.start G) w where
  sim := { obj := fun b o h => (by cases h), apart := fun b b' o o' p p' h => (by cases h), glob := fun g hg => ⟨⟨g, 0, 0⟩, by simp [hg], rfl, rfl⟩ }
  ro := fun b o h => by cases h
  wf := fun b h => rfl
  free := fun b h => by have : G ≤ b := h; simp; omega

/-- The law's call in the model, by its call in the abstract machine. -/
theorem law_calls {prims : Prims} (hp : PrimsOk P prims) (hm : P.follows .mixedOrders = true) (hn : plainNames P = true) {f : FuncId} {fn : Func} (hfn : P.funcs[f]? = some fn) (hnp : prims f = none)
    {n : Nat} {base : Nat} {ts : List TypeId} {args : Array Value} {ds : List (DataW D)} {ps : List MemPlace} (hr : ∀ t ∈ ts, readable P n t = true)
    (main : ∀ (H : Heap) (as : List AV), P.globals.size ≤ H.next → Wf H → PicAll P H n ts as → CallsA P prims f as H fun v _ => v = .bool true)
    (hval : ∀ (j : Nat) t v, ts[j]? = some t → args.toList[j]? = some v → Value.okWide P w .any base t v) (hA : DataW.TrodAll enc P w 0 (fun _ => true) true ts args.toList ds ps) :
    Calls P f args w fun e w' => e = .returned (.bool true) ∧ Below w.heap.size w w' := by
  obtain ⟨ρ, H, as, hi, _, hx, hv, hpic⟩ := values_read ts args.toList ds ps hr hval hA _ _ (start_inv P.globals.size w) (Nat.le_refl _)
  have hc := main H as hx.1 hi.wf hpic
  unfold CallsA at hc
  obtain ⟨k, v, H', hrun, rfl⟩ := hc
  refine (acall_sound hp hm hn hfn hnp hrun hi.sim hi.wf (fun b h _ => hi.free b h) hv).mono fun e w' ⟨u, he, ρ', hg, hu⟩ => ?_
  have hu : u = .bool true := hu
  subst hu
  refine ⟨he, hg.keeps.os, hg.keeps.tape, hg.keeps.output, hg.keeps.size, fun b hb => ?_⟩
  obtain ⟨o, ho⟩ : ∃ o, w.heap[b]? = some o := ⟨w.heap[b], by simp [hb]⟩
  rw [ho]
  refine hg.keeps.kept b o ho ?_
  rintro ⟨b', o', p, h1, h2, _⟩
  rw [hi.ro b' o' h1] at h2
  cases h2

theorem trodAll_behind (hl : laidOutB P = true) {w' : World} (hb : Below w.heap.size w w') : ∀ (ts : List TypeId) (vs : List Value) (ds : List (DataW D)) (ps : List MemPlace),
    (∀ t ∈ ts, P.readableRec t = true ∧ t < P.types.size) → DataW.TrodAll enc P w 0 (fun _ => true) true ts vs ds ps →
    ∃ qs, DataW.TrodAll enc P w' 0 (fun b => decide (b < w.heap.size)) true ts vs ds qs
  | [], vs, ds, ps, _, hA => by
    obtain ⟨rfl, rfl, rfl⟩ := trodAll_nil hA
    exact ⟨[], trodAll_mk0⟩
  | t :: ts, vs, ds, ps, hr, hA => by
    obtain ⟨v, vs', d, ds', p, q, rfl, rfl, rfl, h0, hA'⟩ := trodAll_cons hA
    obtain ⟨qs, hq⟩ := trodAll_behind hl hb ts vs' ds' q (fun t h => hr t (by simp [h])) hA'
    have lt : ∀ x ∈ p, x.block < w.heap.size := by obtain ⟨m, hm⟩ := h0; exact DataW.trod_lt m _ _ _ hm
    exact ⟨_, trodAll_cons_mk (Below.trod hl (hr t (by simp)).1 (hr t (by simp)).2 h0 hb lt) hq⟩

theorem trodAll_len : ∀ (ts : List TypeId) (vs : List Value) (ds : List (DataW D)) (ps : List MemPlace), DataW.TrodAll enc P w 0 (fun _ => true) true ts vs ds ps → ds.length = ts.length
  | [], vs, ds, ps, hA => by
    obtain ⟨rfl, rfl, rfl⟩ := trodAll_nil hA
    rfl
  | t :: ts, vs, ds, ps, hA => by
    obtain ⟨v, vs', d, ds', p, q, rfl, rfl, rfl, h0, hA'⟩ := trodAll_cons hA
    simp [trodAll_len ts vs' ds' q hA']

/-- What a law's row asks for: it answers true, and its arguments read as they did. -/
theorem law_post {s : ChangeSpec} {fn : Func} {f : FuncId} (hl : laidOutB P = true) (hs : s.vars = []) (hfn : ∀ (ds : List (DataW D)), ds.length = fn.params.toList.length → s.fn D ds = { results := [.lit (.bool true)], args := ds, vars := [] })
    {tb : TypeId} (hres : fn.resultTypes = #[tb]) (hb : P.underlying tb = some .bool) (hts : ∀ t ∈ fn.params.toList, P.readableRec t = true ∧ t < P.types.size)
    {args : Array Value} {ds gs : List (DataW D)} {before : List MemPlace}
    (hW : DataW.Whole enc P fn.params.toList s.vars false w args.toList ds gs before)
    (hcall : ∀ p, DataW.TrodAll enc P w 0 (fun _ => true) true fn.params.toList args.toList ds p → Calls P f args w fun e w' => e = .returned (.bool true) ∧ Below w.heap.size w w') :
    Calls P f args w fun e w' => ∃ v, e = .returned v ∧ s.post enc P fn false true false false w args v w' := by
  have hW' := hW
  obtain ⟨p, q, hA, hV, rfl, hfz, hnd⟩ := hW
  rw [hs] at hV
  obtain ⟨rfl, rfl⟩ := trodVars_none hV
  have hlen : ds.length = fn.params.toList.length := trodAll_len _ _ _ _ hA
  refine (hcall p hA).mono fun e w' ⟨he, bel⟩ => ?_
  obtain ⟨qs, hq⟩ := trodAll_behind hl bel _ _ _ _ hts hA
  have e1 := hfn ds hlen
  refine ⟨.bool true, he, ds, [], _, [], qs, [], hW', ?_, ?_, ?_, bel.frame _, fun h => (by cases h)⟩
  · rw [List.append_nil, e1, hres]
    exact trodAll_mk1 (shut_bool hb _)
  · rw [List.append_nil, e1]
    exact hq
  · rw [hs]
    show DataW.TrodVars enc P w' _ [] (s.fn D (ds ++ [])).vars []
    rw [List.append_nil, e1]
    rfl

end
end Go.Abs

/- A call with no argument that the kernel has evaluated from the empty memory, used wherever it stands. -/
namespace Go.Abs
set_option linter.unusedVariables false

def plainAV : AV → Bool
  | .bool _ => true
  | .int _ _ => true
  | .str _ => true
  | _ => false

theorem VRel.plain {ρ ρ' : Map} {v : AV} {u : Value} (h : plainAV v = true) (hv : VRel ρ v u) : VRel ρ' v u := by
  cases v <;> first | exact hv | cases h

/-- Functions of no argument, each with what it comes to. -/
def closedPrims (l : List (FuncId × AV)) : Prims := fun f => match l.find? fun p => p.1 == f with
  | some p => some fun args H => if args.isEmpty then some (p.2, H) else none
  | none => none

theorem Delivers.mono' {P : Program} {s : Sem Next} {w : World} {Q R : Value → World → Prop} (h : Delivers P s w Q) (k : ∀ u w', Q u w' → R u w') : Delivers P s w R := by
  unfold Delivers at h ⊢
  split at h <;> first | exact h.elim | exact k _ _ h | exact h.mono fun e w' ⟨u, he, hq⟩ => ⟨u, he, k _ _ hq⟩ | exact h

theorem closedPrims_ok {P : Program} (hm : P.follows .mixedOrders = true) (hn : plainNames P = true) {l : List (FuncId × AV)}
    (h : ∀ p ∈ l, plainAV p.2 = true ∧ ∃ n H', acall P noPrims n p.1 [] (Heap.start P.globals.size) = some (p.2, H')) : PrimsOk P (closedPrims l) := by
  refine ⟨?_, ?_⟩
  · intro f g hf args H v H' hg
    unfold closedPrims at hf
    split at hf
    · injection hf with hf
      subst hf
      simp only [] at hg
      split at hg
      · injection hg with hg; injection hg with _ hg; subst hg; exact Nat.le_refl _
      · cases hg
    · cases hf
  · intro f g hf args H v H' hg ρ w us hs hwf hfree hargs
    unfold closedPrims at hf
    split at hf
    · rename_i p hp
      injection hf with hf
      subst hf
      simp only [] at hg
      split at hg
      · rename_i he
        injection hg with hg; injection hg with h1 h2; subst h1; subst h2
        have hargs' : args = [] := by simpa using he
        subst hargs'
        have hmem := List.mem_of_find?_eq_some hp
        have hpf : p.1 = f := by simpa using List.find?_some hp
        obtain ⟨hpl, n, H', hrun⟩ := h p hmem
        rw [hpf] at hrun
        have hstart : Sim P.globals.size (fun g => if g < P.globals.size then some ⟨g, 0, 0⟩ else none) (Heap.start P.globals.size) w :=
          { obj := fun b o h => (by cases h), apart := fun b b' o o' p p' h => (by cases h), glob := fun g hg => ⟨⟨g, 0, 0⟩, by simp [hg], rfl, rfl⟩ }
        have hd := acall_ok (noPrims_ok P) hm hn n f [] _ _ _ hrun _ w us hstart (fun b _ => rfl) (fun b hb _ => by have : P.globals.size ≤ b := hb; simp; omega) hargs
        refine Delivers.mono' hd fun u w' ⟨ρ', hg, hv⟩ => ⟨ρ, ?_, VRel.plain hpl hv⟩
        have kept : ∀ (B : Nat) (o : Obj), w.heap[B]? = some o → w'.heap[B]? = some o := fun B o hB => hg.keeps.kept B o hB (by rintro ⟨b, o', p, h1, _⟩; cases h1)
        exact
          { sim := { obj := fun b o hb => (hs.obj b o hb).grow (Ext.refl ρ) kept, apart := hs.apart, glob := hs.glob }
            ext := Ext.refl ρ
            out := fun _ _ => rfl
            next := Nat.le_refl _
            dom := fun _ h _ => h
            ro := fun _ _ h _ _ => h
            keeps := { size := hg.keeps.size, kept := fun B o hB _ => kept B o hB, owns := fun B h => .inr h, tape := hg.keeps.tape, os := hg.keeps.os, output := hg.keeps.output } }
      · cases hg
    · cases hf

end Go.Abs

/- Each operation's answer as a rule that rewrites: cheap to use, and stuck where it is not told. -/
namespace Go.Abs
set_option linter.unusedVariables false

section
variable {P : Program} {N : Nat} {e : Nat → AV} {H : Heap}

def mvR : Option AV → Heap → Option (AV × Heap)
  | some v, H => some (v, H)
  | none, _ => none
theorem opR_move (x : Operand) : opR P N e (.move x) H = mvR (ev P (tab N e) x) H := by
  simp only [opR_eq, sem]; cases ev P (tab N e) x <;> rfl
theorem opR_assign (x : Operand) : opR P N e (.assign x) H = mvR (ev P (tab N e) x) H := by
  simp only [opR_eq, sem]; cases ev P (tab N e) x <;> rfl
theorem mvR_some (v : AV) : mvR (some v) H = some (v, H) := rfl

def pickR : Option AV → Option AV → Option AV → Heap → Option (AV × Heap)
  | some (.bool t), some x, some y, H => some (if t then x else y, H)
  | _, _, _, _ => none
theorem opR_pick (c a b : Operand) : opR P N e (.pick c a b) H = pickR (ev P (tab N e) c) (ev P (tab N e) a) (ev P (tab N e) b) H := by
  simp only [opR_eq, sem]
  cases ev P (tab N e) c with
  | none => rfl
  | some v => cases v <;> cases ev P (tab N e) a <;> cases ev P (tab N e) b <;> rfl
theorem pickR_eq (t : Bool) (x y : AV) : pickR (some (.bool t)) (some x) (some y) H = some (if t then x else y, H) := rfl

def binR (P : Program) (op : BinOp) (t : TypeId) : Option AV → Option AV → Heap → Option (AV × Heap)
  | some a, some b, H => match binSem P op t a b with
    | some s => s.run H
    | none => none
  | _, _, _ => none
theorem opR_bin (op : BinOp) (t u : TypeId) (x y : Operand) : opR P N e (.binOp op t x y u) H = binR P op t (ev P (tab N e) x) (ev P (tab N e) y) H := by
  simp only [opR_eq, sem]
  cases ev P (tab N e) x <;> cases ev P (tab N e) y <;> rfl

variable {t : TypeId} {k : IntKind} {a b : Int}
theorem binR_add : binR P .add t (some (.int k a)) (some (.int k b)) H = some (.int k (k.wrap (a + b)), H) := by simp [binR, binSem, intOp, Sm.run]
theorem binR_sub : binR P .sub t (some (.int k a)) (some (.int k b)) H = some (.int k (k.wrap (a - b)), H) := by simp [binR, binSem, intOp, Sm.run]
theorem binR_mul : binR P .mul t (some (.int k a)) (some (.int k b)) H = some (.int k (k.wrap (a * b)), H) := by simp [binR, binSem, intOp, Sm.run]
theorem binR_quo (h : b ≠ 0) : binR P .quo t (some (.int k a)) (some (.int k b)) H = some (.int k (k.wrap (a.tdiv b)), H) := by simp [binR, binSem, intOp, Sm.run, h]
theorem binR_rem (h : b ≠ 0) : binR P .rem t (some (.int k a)) (some (.int k b)) H = some (.int k (a.tmod b), H) := by simp [binR, binSem, intOp, Sm.run, h]
theorem binR_and : binR P .and t (some (.int k a)) (some (.int k b)) H = some (.int k (k.wrap (BitVec.ofInt k.bits a &&& BitVec.ofInt k.bits b).toNat), H) := by simp [binR, binSem, intOp, Sm.run]
theorem binR_or : binR P .or t (some (.int k a)) (some (.int k b)) H = some (.int k (k.wrap (BitVec.ofInt k.bits a ||| BitVec.ofInt k.bits b).toNat), H) := by simp [binR, binSem, intOp, Sm.run]
theorem binR_xor : binR P .xor t (some (.int k a)) (some (.int k b)) H = some (.int k (k.wrap (BitVec.ofInt k.bits a ^^^ BitVec.ofInt k.bits b).toNat), H) := by simp [binR, binSem, intOp, Sm.run]
theorem binR_andNot : binR P .andNot t (some (.int k a)) (some (.int k b)) H = some (.int k (k.wrap (BitVec.ofInt k.bits a &&& ~~~(BitVec.ofInt k.bits b)).toNat), H) := by simp [binR, binSem, intOp, Sm.run]
theorem binR_eql : binR P .eql t (some (.int k a)) (some (.int k b)) H = some (.bool (decide (a = b)), H) := by simp only [binR, binSem, intOp, Sm.run, if_true, Option.map_some]; rw [show (a == b) = decide (a = b) from by by_cases h : a = b <;> simp [h]]
theorem binR_neq : binR P .neq t (some (.int k a)) (some (.int k b)) H = some (.bool (decide (a ≠ b)), H) := by simp only [binR, binSem, intOp, Sm.run, if_true, Option.map_some]; rw [show (a != b) = decide (a ≠ b) from by by_cases h : a = b <;> simp [h]]
theorem binR_lss : binR P .lss t (some (.int k a)) (some (.int k b)) H = some (.bool (decide (a < b)), H) := by simp [binR, binSem, intOp, Sm.run]
theorem binR_leq : binR P .leq t (some (.int k a)) (some (.int k b)) H = some (.bool (decide (a ≤ b)), H) := by simp [binR, binSem, intOp, Sm.run]
theorem binR_gtr : binR P .gtr t (some (.int k a)) (some (.int k b)) H = some (.bool (decide (b < a)), H) := by simp [binR, binSem, intOp, Sm.run]
theorem binR_geq : binR P .geq t (some (.int k a)) (some (.int k b)) H = some (.bool (decide (b ≤ a)), H) := by simp [binR, binSem, intOp, Sm.run]
theorem binR_streql {x y : List UInt8} : binR P .eql t (some (.str x)) (some (.str y)) H = some (.bool (x == y), H) := by simp [binR, binSem, strOp, Sm.run]
theorem binR_strneq {x y : List UInt8} : binR P .neq t (some (.str x)) (some (.str y)) H = some (.bool !(x == y), H) := by simp [binR, binSem, strOp, Sm.run]
theorem binR_stradd {x y : List UInt8} (h : x.length + y.length ≤ 2 ^ 62) : binR P .add t (some (.str x)) (some (.str y)) H = some (.str (x ++ y), H) := by simp [binR, binSem, strOp, Sm.run, h]
theorem binR_beql {x y : Bool} (h : P.underlying t = some .bool) : binR P .eql t (some (.bool x)) (some (.bool y)) H = some (.bool (x == y), H) := by simp [binR, binSem, Sm.run, h]
theorem binR_bneq {x y : Bool} (h : P.underlying t = some .bool) : binR P .neq t (some (.bool x)) (some (.bool y)) H = some (.bool !(x == y), H) := by simp [binR, binSem, Sm.run, h]

/-! pointers, slices, maps beside nil -/
def isPtrT (P : Program) (t : TypeId) : Bool := match P.underlying t with | some (.pointer _) => true | _ => false
def isSliceT (P : Program) (t : TypeId) : Bool := match P.underlying t with | some (.slice _) => true | _ => false
def isMapT (P : Program) (t : TypeId) : Bool := match P.underlying t with | some (.map _ _) => true | _ => false
def isStrT (P : Program) (t : TypeId) : Bool := match P.underlying t with | some .string => true | _ => false
def firstT (f : Program → TypeId → Bool) (P : Program) (ts : Array TypeId) : Bool := match ts[0]? with | some t => f P t | none => false

theorem isPtrT_of (h : isPtrT P t = true) : ∃ u, P.underlying t = some (.pointer u) := by unfold isPtrT at h; split at h <;> first | exact ⟨_, by assumption⟩ | cases h
theorem isSliceT_of (h : isSliceT P t = true) : ∃ u, P.underlying t = some (.slice u) := by unfold isSliceT at h; split at h <;> first | exact ⟨_, by assumption⟩ | cases h
theorem isMapT_of (h : isMapT P t = true) : ∃ u v, P.underlying t = some (.map u v) := by unfold isMapT at h; split at h <;> first | exact ⟨_, _, by assumption⟩ | cases h
theorem isStrT_of (h : isStrT P t = true) : P.underlying t = some .string := by unfold isStrT at h; split at h <;> first | assumption | cases h
theorem firstT_of {f : Program → TypeId → Bool} {ts : Array TypeId} (h : firstT f P ts = true) : ∃ t, ts[0]? = some t ∧ f P t = true := by
  unfold firstT at h; split at h
  · exact ⟨_, by assumption, h⟩
  · cases h
theorem binR_nilnil_p (h : isPtrT P t = true) : binR P .eql t (some (.ptr none)) (some (.ptr none)) H = some (.bool true, H) := by obtain ⟨_, h⟩ := isPtrT_of h; simp [binR, binSem, eqSem, Sm.run, h]
theorem binR_nilnil_pn (h : isPtrT P t = true) : binR P .neq t (some (.ptr none)) (some (.ptr none)) H = some (.bool false, H) := by obtain ⟨_, h⟩ := isPtrT_of h; simp [binR, binSem, eqSem, Sm.run, h]
theorem binR_ptrnil {x : Nat × Nat} (h : isPtrT P t = true) : binR P .eql t (some (.ptr (some x))) (some (.ptr none)) H = some (.bool false, H) := by obtain ⟨_, h⟩ := isPtrT_of h; simp [binR, binSem, eqSem, Sm.run, h]
theorem binR_ptrniln {x : Nat × Nat} (h : isPtrT P t = true) : binR P .neq t (some (.ptr (some x))) (some (.ptr none)) H = some (.bool true, H) := by obtain ⟨_, h⟩ := isPtrT_of h; simp [binR, binSem, eqSem, Sm.run, h]
theorem binR_slnil {x : Option (Nat × Nat)} {n c : Nat} {s : Option Nat} {n' c' : Nat} {s' : Option Nat} (h : isSliceT P t = true) : binR P .eql t (some (.slice x n c s)) (some (.slice none n' c' s')) H = some (.bool x.isNone, H) := by
  obtain ⟨_, h⟩ := isSliceT_of h
  cases x <;> simp [binR, binSem, eqSem, Sm.run, h]
theorem binR_slniln {x : Option (Nat × Nat)} {n c : Nat} {s : Option Nat} {n' c' : Nat} {s' : Option Nat} (h : isSliceT P t = true) : binR P .neq t (some (.slice x n c s)) (some (.slice none n' c' s')) H = some (.bool !x.isNone, H) := by
  obtain ⟨_, h⟩ := isSliceT_of h
  cases x <;> simp [binR, binSem, eqSem, Sm.run, h]
theorem binR_mapnil {x : Option Nat} (h : isMapT P t = true) : binR P .eql t (some (.map x)) (some (.map none)) H = some (.bool x.isNone, H) := by
  obtain ⟨_, _, h⟩ := isMapT_of h
  cases x <;> simp [binR, binSem, eqSem, Sm.run, h]
theorem binR_mapniln {x : Option Nat} (h : isMapT P t = true) : binR P .neq t (some (.map x)) (some (.map none)) H = some (.bool !x.isNone, H) := by
  obtain ⟨_, _, h⟩ := isMapT_of h
  cases x <;> simp [binR, binSem, eqSem, Sm.run, h]

def unR (op : UnOp) : Option AV → Heap → Option (AV × Heap)
  | some v, H => match unSem op v with
    | some u => some (u, H)
    | none => none
  | none, _ => none
theorem opR_un (op : UnOp) (t : TypeId) (x : Operand) : opR P N e (.unOp op t x) H = unR op (ev P (tab N e) x) H := by
  simp only [opR_eq, sem]
  cases ev P (tab N e) x with
  | none => rfl
  | some v => simp only [unR]; cases unSem op v <;> rfl
theorem unR_not {x : Bool} : unR .not (some (.bool x)) H = some (.bool !x, H) := rfl

def extractR (i : Nat) : Option AV → Heap → Option (AV × Heap)
  | some (.tuple vs), H => match vs[i]? with
    | some v => some (v, H)
    | none => none
  | _, _ => none
theorem opR_extract (x : Operand) (i : Nat) : opR P N e (.extract x i) H = extractR i (ev P (tab N e) x) H := by
  simp only [opR_eq, sem]
  cases ev P (tab N e) x with
  | none => rfl
  | some v => cases v <;> first | rfl | (rename_i vs; simp only [extractR]; cases vs[i]? <;> rfl)
theorem extractR_eq (i : Nat) (vs : List AV) : extractR i (some (.tuple vs)) H = match vs[i]? with | some v => some (v, H) | none => none := rfl

def nilCheckR : Option AV → Heap → Option (AV × Heap)
  | some (.ptr (some a)), H => some (.ptr (some a), H)
  | some (.func (.func f) xs ys), H => some (.func (.func f) xs ys, H)
  | _, _ => none
theorem opR_nilCheck (x : Operand) : opR P N e (.nilCheck x) H = nilCheckR (ev P (tab N e) x) H := by
  simp only [opR_eq, sem]
  cases ev P (tab N e) x with
  | none => rfl
  | some v =>
    cases v with
    | ptr a => cases a <;> rfl
    | func f xs ys => cases f <;> rfl
    | _ => rfl
theorem nilCheckR_eq (a : Nat × Nat) : nilCheckR (some (.ptr (some a))) H = some (.ptr (some a), H) := rfl

def fieldAddrR (P : Program) (s : TypeId) (f : Nat) : Option AV → Heap → Option (AV × Heap)
  | some (.ptr (some (b, o))), H => match P.underlying s with
    | some (.struct fields) => match fields[f]? with
      | some fd => if (tsz P fd.type).getD 0 = 0 then none else some (.ptr (some (b, o + fd.offset)), H)
      | none => none
    | _ => none
  | _, _ => none
theorem opR_fieldAddr (s : TypeId) (x : Operand) (f : Nat) : opR P N e (.fieldAddr s x f) H = fieldAddrR P s f (ev P (tab N e) x) H := by
  simp only [opR_eq, sem, fieldAddrR]
  cases ev P (tab N e) x with
  | none => cases P.underlying s with
    | none => rfl
    | some d => cases d <;> rfl
  | some v =>
    cases hu : P.underlying s with
    | none => cases v with
      | ptr a => cases a <;> rfl
      | _ => rfl
    | some d =>
      cases v with
      | ptr a =>
        cases a with
        | none => cases d <;> rfl
        | some q =>
          cases d with
          | struct fields =>
            simp only []
            cases fields[f]? with
            | none => rfl
            | some fd =>
              simp only []
              by_cases h0 : (tsz P fd.type).getD 0 = 0
              · simp only [if_pos h0]
              · simp only [if_neg h0, Sm.run]
          | _ => rfl
      | _ => cases d <;> rfl
theorem fieldAddrR_eq {s : TypeId} {f b o : Nat} : fieldAddrR P s f (some (.ptr (some (b, o)))) H = match P.underlying s with
    | some (.struct fields) => match fields[f]? with
      | some fd => if (tsz P fd.type).getD 0 = 0 then none else some (.ptr (some (b, o + fd.offset)), H)
      | none => none
    | _ => none := rfl

def loadR (P : Program) (t : TypeId) : Option AV → Heap → Option (AV × Heap)
  | some (.ptr (some (b, o))), H => match tagg P t, tsz P t, H.get b with
    | some g, some n, some x => match readVar g n o x with
      | some v => some (v, H)
      | none => none
    | _, _, _ => none
  | _, _ => none
theorem opR_load (t : TypeId) (x : Operand) : opR P N e (.load t x) H = loadR P t (ev P (tab N e) x) H := by
  simp only [opR_eq, sem, loadR]
  cases ev P (tab N e) x with
  | none => rfl
  | some v =>
    cases v with
    | ptr a =>
      cases a with
      | none => rfl
      | some q =>
        obtain ⟨b, o⟩ := q
        simp only []
        cases tagg P t with
        | none => rfl
        | some g =>
          cases tsz P t with
          | none => rfl
          | some n =>
            simp only [Sm.run, mapOpt]
            cases H.get b with
            | none => rfl
            | some x => rfl
    | _ => rfl
theorem loadR_eq {b o n : Nat} {g : Bool} {x : AObj} (hg : tagg P t = some g) (hn : tsz P t = some n) (hx : H.get b = some x) : loadR P t (some (.ptr (some (b, o)))) H = match readVar g n o x with | some v => some (v, H) | none => none := by
  simp [loadR, hg, hn, hx]

def storeR (P : Program) (t : TypeId) : Option AV → Option AV → Heap → Option (AV × Heap)
  | some (.ptr (some (b, o))), some v, H => if tsz P t = some v.cells.length then match writeCells H b o v.cells with
      | some H' => some (.undef, H')
      | none => none
    else none
  | _, _, _ => none
theorem opR_store (t : TypeId) (x y : Operand) : opR P N e (.store t x y) H = storeR P t (ev P (tab N e) x) (ev P (tab N e) y) H := by
  simp only [opR_eq, sem, storeR]
  cases ev P (tab N e) x with
  | none => rfl
  | some v =>
    cases v with
    | ptr a =>
      cases a with
      | none => rfl
      | some q =>
        obtain ⟨b, o⟩ := q
        cases ev P (tab N e) y with
        | none => rfl
        | some y =>
          simp only []
          cases tsz P t with
          | none => simp
          | some n =>
            simp only [Option.some.injEq]
            by_cases h : n = y.cells.length
            · subst h; rw [if_pos rfl, if_neg (fun h => h rfl)]; simp only [Sm.run]; cases writeCells H b o y.cells <;> rfl
            · rw [if_neg h, if_pos (fun hh => h hh.symm)]
    | _ => rfl
theorem storeR_eq {b o n : Nat} {v : AV} (hn : tsz P t = some v.cells.length) : storeR P t (some (.ptr (some (b, o)))) (some v) H = match writeCells H b o v.cells with | some H' => some (.undef, H') | none => none := by
  simp [storeR, hn]

theorem opR_alloc (t : TypeId) {z : AV} (h : tzero P t = some z) : opR P N e (.alloc t) H = some (.ptr (some (H.next, 0)), H.push (.cells z.cells t true false)) := by
  simp only [opR_eq, sem, h, Option.map_some, Sm.run]

def boxR (t : TypeId) : Option AV → Heap → Option (AV × Heap)
  | some v, H => some (.ptr (some (H.next, 0)), H.push (.cells v.cells t true false))
  | none, _ => none
theorem opR_box (t : TypeId) (x : Operand) : opR P N e (.box t x) H = boxR t (ev P (tab N e) x) H := by
  simp only [opR_eq, sem]
  cases ev P (tab N e) x <;> rfl
theorem boxR_some (v : AV) : boxR t (some v) H = some (.ptr (some (H.next, 0)), H.push (.cells v.cells t true false)) := rfl

def buildR (P : Program) (t : TypeId) : Option (List (Nat × AV)) → Heap → Option (AV × Heap)
  | some ps, H => match buildA P t ps with
    | some v => some (v, H)
    | none => none
  | none, _ => none
theorem opR_build (t : TypeId) (parts : Array (Nat × Operand)) : opR P N e (.build t parts) H = buildR P t (evParts P (tab N e) parts.toList) H := by
  simp only [opR_eq, sem]
  cases evParts P (tab N e) parts.toList with
  | none => rfl
  | some ps => simp only [buildR]; cases buildA P t ps <;> rfl
theorem buildR_some (ps : List (Nat × AV)) {v : AV} (h : buildA P t ps = some v) : buildR P t (some ps) H = some (v, H) := by simp [buildR, h]

def buildSliceR (P : Program) (t : TypeId) (n : Nat) : Option (List (Nat × AV)) → Heap → Option (AV × Heap)
  | some ps, H => match buildSliceA P t n ps with
    | some s => s.run H
    | none => none
  | none, _ => none
theorem opR_buildSlice (t : TypeId) (n : Nat) (parts : Array (Nat × Operand)) : opR P N e (.buildSlice t n parts) H = buildSliceR P t n (evParts P (tab N e) parts.toList) H := by
  simp only [opR_eq, sem]
  cases evParts P (tab N e) parts.toList <;> rfl
theorem buildSliceR_eq (t : TypeId) (n : Nat) (ps : List (Nat × AV)) : buildSliceR P t n (some ps) H = match buildSliceA P t n ps with | some s => s.run H | none => none := rfl
theorem buildR_eq (ps : List (Nat × AV)) : buildR P t (some ps) H = match buildA P t ps with | some v => some (v, H) | none => none := rfl

def indexAddrR (P : Program) (t : TypeId) : Option AV → Option AV → Heap → Option (AV × Heap)
  | some a, some b, H => match indexAddrSem P t a b with
    | some v => some (v, H)
    | none => none
  | _, _, _ => none
theorem opR_indexAddr (t : TypeId) (x y : Operand) : opR P N e (.indexAddr t x y) H = indexAddrR P t (ev P (tab N e) x) (ev P (tab N e) y) H := by
  simp only [opR_eq, sem]
  cases ev P (tab N e) x with
  | none => cases ev P (tab N e) y <;> rfl
  | some a => cases ev P (tab N e) y with
    | none => rfl
    | some b => simp only [indexAddrR]; cases indexAddrSem P t a b <;> rfl
/-- the cells of an element of a slice's type; of an array's type, and how many elements -/
def elemS (P : Program) (t : TypeId) : Option Nat := match P.underlying t with | some (.slice u) => tsz P u | _ => none
def elemA (P : Program) (t : TypeId) : Option (Nat × Nat) := match P.underlying t with | some (.array n u) => (tsz P u).map fun s => (n, s) | _ => none
theorem indexAddrR_slice {t : TypeId} {b o n c : Nat} {sl : Option Nat} {k : IntKind} {i : Int} : indexAddrR P t (some (.slice (some (b, o)) n c sl)) (some (.int k i)) H =
    match elemS P t with
    | some s => if 0 ≤ i ∧ i < n then some (.ptr (some (b, o + i.toNat * s)), H) else none
    | none => none := by
  unfold indexAddrR indexAddrSem elemS
  cases P.underlying t with
  | none => rfl
  | some d =>
    cases d with
    | slice u =>
      simp only []
      cases tsz P u with
      | none => rfl
      | some s => simp only []; by_cases h : 0 ≤ i ∧ i < n <;> simp [h]
    | _ => rfl
theorem indexAddrR_array {t : TypeId} {b o : Nat} {k : IntKind} {i : Int} : indexAddrR P t (some (.ptr (some (b, o)))) (some (.int k i)) H =
    match elemA P t with
    | some (n, s) => if 0 ≤ i ∧ i < n then some (.ptr (some (b, o + i.toNat * s)), H) else none
    | none => none := by
  unfold indexAddrR indexAddrSem elemA
  cases P.underlying t with
  | none => rfl
  | some d =>
    cases d with
    | array n u =>
      simp only []
      cases tsz P u with
      | none => rfl
      | some s => simp only [Option.map_some]; by_cases h : 0 ≤ i ∧ i < n <;> simp [h]
    | _ => rfl

/-! builtins -/
def builtinR (P : Program) (b : Builtin) (ts : Array TypeId) : Option (List AV) → Heap → Option (AV × Heap)
  | some args, H => match builtinSem P b ts args with
    | some s => s.run H
    | none => none
  | none, _ => none
theorem opR_builtin (b : Builtin) (xs : Array Operand) (ts : Array TypeId) : opR P N e (.call { callee := .builtin b, args := xs, argTypes := ts }) H = builtinR P b ts (mapOpt (ev P (tab N e)) xs.toList) H := by
  simp only [opR_eq, sem, callSem]
  cases mapOpt (ev P (tab N e)) xs.toList <;> rfl
theorem len_slice {ts : Array TypeId} {x : Option (Nat × Nat)} {n c : Nat} {s : Option Nat} (h : firstT isSliceT P ts = true) :
    builtinR P .len ts (some [.slice x n c s]) H = some (.int .i64 n, H) := by
  obtain ⟨t, ht, h⟩ := firstT_of h
  obtain ⟨_, hu⟩ := isSliceT_of h
  simp [builtinR, builtinSem, lenSem, ht, hu, Sm.run]
theorem len_str {ts : Array TypeId} {x : List UInt8} (h : firstT isStrT P ts = true) :
    builtinR P .len ts (some [.str x]) H = some (.int .i64 x.length, H) := by
  obtain ⟨t, ht, h⟩ := firstT_of h
  have hu := isStrT_of h
  simp [builtinR, builtinSem, lenSem, ht, hu, Sm.run]
theorem len_mapnil {ts : Array TypeId} (h : firstT isMapT P ts = true) :
    builtinR P .len ts (some [.map none]) H = some (.int .i64 0, H) := by
  obtain ⟨t, ht, h⟩ := firstT_of h
  obtain ⟨_, _, hu⟩ := isMapT_of h
  simp [builtinR, builtinSem, lenSem, ht, hu, Sm.run]
theorem len_map {ts : Array TypeId} {r : Nat} {es : List (AV × AV)} (h : firstT isMapT P ts = true) (hr : H.get r = some (.map es)) :
    builtinR P .len ts (some [.map (some r)]) H = some (.int .i64 es.length, H) := by
  obtain ⟨t, ht, h⟩ := firstT_of h
  obtain ⟨_, _, hu⟩ := isMapT_of h
  simp [builtinR, builtinSem, lenSem, ht, hu, Sm.run, mapOpt, hr]
theorem min_two {ts : Array TypeId} {k : IntKind} {a b : Int} : builtinR P .min ts (some [.int k a, .int k b]) H = some (.int k (if b < a then b else a), H) := by simp [builtinR, builtinSem, minA, Sm.run]
theorem max_two {ts : Array TypeId} {k : IntKind} {a b : Int} : builtinR P .max ts (some [.int k a, .int k b]) H = some (.int k (if b > a then b else a), H) := by simp [builtinR, builtinSem, maxA, Sm.run]

theorem mapOpt_nil {α β : Type} (f : α → Option β) : mapOpt f [] = some [] := rfl
theorem mapOpt_cons {α β : Type} {f : α → Option β} {x : α} {xs : List α} {y : β} {ys : List β} (h : f x = some y) (hs : mapOpt f xs = some ys) : mapOpt f (x :: xs) = some (y :: ys) := by simp [mapOpt, h, hs]
theorem evParts_nil : evParts P (tab N e) [] = some [] := rfl
theorem evParts_cons {i : Nat} {x : Operand} {r : List (Nat × Operand)} {v : AV} {vs : List (Nat × AV)} (h : ev P (tab N e) x = some v) (hs : evParts P (tab N e) r = some vs) : evParts P (tab N e) ((i, x) :: r) = some ((i, v) :: vs) := by simp [evParts, h, hs]

end
attribute [irreducible] indexAddrR boxR buildSliceR buildR builtinR mvR pickR binR unR extractR nilCheckR fieldAddrR loadR storeR
end Go.Abs

/- Slices that the run has made and goes on appending to. -/
namespace Go.Abs
set_option linter.unusedVariables false

section
variable {P : Program} {N : Nat} {e : Nat → AV} {H : Heap}

theorem loadR_ptr {t : TypeId} {b o : Nat} : loadR P t (some (.ptr (some (b, o)))) H = match tagg P t, tsz P t, H.get b with
    | some g, some n, some x => match readVar g n o x with
      | some v => some (v, H)
      | none => none
    | _, _, _ => none := by unfold loadR; rfl

theorem storeR_ptr {t : TypeId} {b o : Nat} {v : AV} : storeR P t (some (.ptr (some (b, o)))) (some v) H = if tsz P t = some v.cells.length then match writeCells H b o v.cells with
      | some H' => some (.undef, H')
      | none => none
    else none := by unfold storeR; rfl

theorem builtinR_eq {b : Builtin} {ts : Array TypeId} {args : List AV} : builtinR P b ts (some args) H = match builtinSem P b ts args with
    | some s => s.run H
    | none => none := by unfold builtinR; rfl

/-- A slice of the run's own, with these cells, and no room behind them that is known of. -/
def OwnSl (H : Heap) (elem : TypeId) (s : Nat) (v : AV) (n : Nat) (cs : List AV) : Prop :=
  (v = .slice none 0 0 none ∧ n = 0 ∧ cs = []) ∨
  ∃ b sl, v = .slice (some (b, 0)) n n sl ∧ (sl = none ∨ sl = some s) ∧ cs.length = n * s ∧ b < H.next ∧ H.get b = some (.cells cs elem true false)

/-- Its block. -/
def slBlock : AV → Option Nat
  | .slice (some (b, _)) _ _ _ => some b
  | _ => none

/-- Nothing but one block has turned; blocks have come. -/
def ButOne (ob : Option Nat) (H H' : Heap) : Prop := H.next ≤ H'.next ∧ (Wf H → Wf H') ∧ ∀ b, b < H.next → some b ≠ ob → H'.get b = H.get b

theorem OwnSl.len {elem : TypeId} {s n : Nat} {v : AV} {cs : List AV} (h : OwnSl H elem s v n cs) : cs.length = n * s := by
  rcases h with ⟨_, rfl, rfl⟩ | ⟨b, sl, _, _, h, _⟩
  · simp
  · exact h

theorem OwnSl.keep {H' : Heap} {elem : TypeId} {s n : Nat} {v : AV} {cs : List AV} (h : OwnSl H elem s v n cs) (hn : H.next ≤ H'.next) (hg : ∀ b, slBlock v = some b → b < H.next → H'.get b = H.get b) : OwnSl H' elem s v n cs := by
  rcases h with h | ⟨b, sl, rfl, h1, h2, h3, h4⟩
  · exact .inl h
  · exact .inr ⟨b, sl, rfl, h1, h2, by omega, (hg b rfl h3).trans h4⟩

theorem push_wf (o : AObj) (h : Wf H) : Wf (H.push o) := by
  intro b hb
  rw [Heap.next_push] at hb
  rw [Heap.get_push, if_neg (by omega)]
  exact h b (by omega)

theorem srcCells_own {elem : TypeId} {s n m : Nat} {v : AV} {cs : List AV} (h : OwnSl H elem s v n cs) : srcCells H s n v = some cs := by
  rcases h with ⟨rfl, rfl, rfl⟩ | ⟨b, sl, rfl, _, hl, _, hg⟩
  · rfl
  · simp only [srcCells]
    by_cases h0 : n * s = 0
    · rw [if_pos h0]
      congr 1
      exact (List.eq_nil_of_length_eq_zero (by omega)).symm
    · rw [if_neg h0, if_pos (Nat.le_refl _)]
      simp only [cellsAt, hg]
      rw [if_pos (by omega)]
      simp only [List.drop_zero]
      rw [List.take_of_length_le (by omega)]

theorem appendA_own {elem : TypeId} {s bytes n m : Nat} {base : Option (Nat × Nat)} {c : Nat} {ex : Option Nat} {cs new : List AV} (h : OwnSl H elem s (.slice base n c ex) n cs)
    (hl : new.length = m * s) (hone : new.all AV.one = true) (hb : (n + m) * bytes ≤ 2 ^ 46) (hn : n + m ≤ 2 ^ 46) :
    ∃ v' H', appendA elem s bytes base n c ex m new H = some (v', H') ∧ OwnSl H' elem s v' (n + m) (cs ++ new) ∧ ButOne (slBlock (.slice base n c ex)) H H' ∧
      (slBlock v' = slBlock (.slice base n c ex) ∨ slBlock v' = some H.next) := by
  have hgf : ∀ c k, growFits (n + m) c bytes k = true := by
    intro c k
    simp only [growFits, Bool.and_eq_true, Bool.or_eq_true, decide_eq_true_eq]
    exact ⟨by omega, .inl ⟨hb, hn⟩⟩
  unfold appendA
  by_cases hm : m = 0
  · subst hm
    have hnew : new = [] := List.eq_nil_of_length_eq_zero (by simpa using hl)
    subst hnew
    rcases h with ⟨e1, rfl, rfl⟩ | ⟨b, sl, e1, h1, h2, h3, h4⟩
    · injection e1 with e1 _ e2 e3
      subst e1; subst e2; subst e3
      exact ⟨_, H, rfl, .inl ⟨rfl, rfl, rfl⟩, ⟨Nat.le_refl _, id, fun _ _ _ => rfl⟩, .inl rfl⟩
    · injection e1 with e1 _ e2 e3
      subst e1; subst e2; subst e3
      exact ⟨.slice (some (b, 0)) c c ex, H, by simp [writeCells], .inr ⟨b, ex, rfl, h1, by simpa using h2, h3, by simpa using h4⟩, ⟨Nat.le_refl _, id, fun _ _ _ => rfl⟩, .inl rfl⟩
  · have hsrc := srcCells_own (m := m) h
    have hcl := h.len
    have hc : c = n := by
      rcases h with ⟨e1, rfl, _⟩ | ⟨b, sl, e1, _⟩
      · injection e1
      · injection e1
    subst hc
    rw [if_neg (by omega), if_pos (hgf _ _), hsrc]
    have hlen : (cs ++ new).length = (c + m) * s := by rw [List.length_append, hcl, hl, Nat.add_mul]
    rcases h with ⟨e1, rfl, rfl⟩ | ⟨b, sl, e1, h1, h2, h3, h4⟩
    · injection e1 with e1 _ _ e3
      subst e1; subst e3
      refine ⟨_, _, rfl, .inr ⟨H.next, some s, rfl, .inr rfl, hlen, by simp, by rw [Heap.get_push, if_pos rfl]⟩, ⟨by simp, push_wf _, fun b hb _ => by rw [Heap.get_push, if_neg (by omega)]⟩, .inr rfl⟩
    · injection e1 with e1 _ _ e3
      subst e1; subst e3
      rcases h1 with rfl | rfl
      · refine ⟨_, _, rfl, .inr ⟨H.next, some s, rfl, .inr rfl, hlen, by simp, by rw [Heap.get_push, if_pos rfl]⟩, ⟨by simp, push_wf _, fun b hb _ => by rw [Heap.get_push, if_neg (by omega)]⟩, .inr rfl⟩
      · simp only [h4]
        rw [if_pos ⟨trivial, by omega, hone⟩]
        refine ⟨_, _, rfl, .inr ⟨H.next, some s, rfl, .inr rfl, hlen, by simp, ?_⟩, ⟨by simp, ?_, ?_⟩, .inr rfl⟩
        · rw [Heap.get_push, Heap.next_set, if_pos rfl]
        · intro hw
          apply push_wf
          intro x hx
          rw [Heap.next_set] at hx
          rw [Heap.get_set, if_neg (by omega)]
          exact hw x hx
        · intro x hx hne
          rw [Heap.get_push, Heap.next_set, if_neg (by omega), Heap.get_set, if_neg (fun e => hne (by rw [e]; rfl))]

/-- Which append it is. -/
theorem append_eq {ts : Array TypeId} {t elem : TypeId} {s bytes : Nat} {z : AV} {t1 : TypeId} {d1 : TypeDesc} {base : Option (Nat × Nat)} {n c m : Nat} {ex : Option Nat} {x : AV} {new : List AV}
    (ht : ts[0]? = some t) (hu : P.underlying t = some (.slice elem)) (hs : tsz P elem = some s) (hb : tbytes P elem = some bytes) (hz : tzero P elem = some z) (hzl : z.cells.length = s)
    (hc : isCount P ts[1]? = false) (ht1 : ts[1]? = some t1) (hu1 : P.underlying t1 = some d1) (hx : srcLen x = some m) (hsrc : srcCells H s m x = some new) (hl : new.length = m * s) :
    builtinR P .append ts (some [.slice base n c ex, x]) H = appendA elem s bytes base n c ex m new H := by
  rw [builtinR_eq]
  rw [ht1] at hc
  simp only [builtinSem, appendSem, ht, hu, hs, hb, hz, hzl, ne_eq, not_true, if_false, hc, ht1, hu1, hx, Sm.run, hsrc, hl, if_true, Bool.false_eq_true]

end
end Go.Abs

/- Regions that draw their order, walked: step by step in the order in which the abstract machine runs them. -/
namespace Go.Abs
set_option linter.unusedVariables false

section
variable {P : Program} {prims : Prims} {N : Nat}

theorem eqSem_light {t : TypeId} {x y : AV} {neg : Bool} {k : Heap → Option (AV × Heap)} : eqSem P t x y neg ≠ some (.heavy k) := by
  intro h
  unfold eqSem at h
  (repeat' split at h) <;> simp at h

theorem binSem_light {op : BinOp} {t : TypeId} {x y : AV} {k : Heap → Option (AV × Heap)} : binSem P op t x y ≠ some (.heavy k) := by
  intro h
  unfold binSem at h
  (repeat' split at h) <;> first | (exact eqSem_light h) | (simp at h)

theorem convSem_light {src dst : TypeId} {x : AV} {k : Heap → Option (AV × Heap)} (hh : isHeavy P (.convert src dst (.const (.bool true))) = false) : convSem P src dst x ≠ some (.heavy k) := by
  intro h
  unfold convSem at h
  simp only [isHeavy] at hh
  (repeat' split at h) <;> first | (simp at h; done) | (simp_all; done)

theorem lookupSem_light {t : TypeId} {x y : AV} {ok : Bool} {k : Heap → Option (AV × Heap)} : lookupSem P t x y ok ≠ some (.heavy k) := by
  intro h
  unfold lookupSem at h
  (repeat' split at h) <;> simp at h

theorem makeSliceSem_light {t : TypeId} {x y : AV} {k : Heap → Option (AV × Heap)} : makeSliceSem P t x y ≠ some (.heavy k) := by
  intro h
  unfold makeSliceSem at h
  (repeat' split at h) <;> simp at h

theorem buildSliceA_light {t : TypeId} {n : Nat} {ps : List (Nat × AV)} {k : Heap → Option (AV × Heap)} : buildSliceA P t n ps ≠ some (.heavy k) := by
  intro h
  unfold buildSliceA at h
  (repeat' split at h) <;> simp at h

theorem lenSem_light {ts : Array TypeId} {x : AV} {k : Heap → Option (AV × Heap)} : lenSem P ts x ≠ some (.heavy k) := by
  intro h
  unfold lenSem at h
  (repeat' split at h) <;> simp at h

theorem capSem_light {ts : Array TypeId} {x : AV} {k : Heap → Option (AV × Heap)} : capSem P ts x ≠ some (.heavy k) := by
  intro h
  unfold capSem at h
  (repeat' split at h) <;> simp at h

theorem mapOpt_get {α β : Type} {f : α → Option β} : ∀ {l : List α} {m : List β}, mapOpt f l = some m → ∀ (i : Nat) (x : α), l[i]? = some x → ∃ y, f x = some y ∧ m[i]? = some y
  | [], m, h, i, x, hx => by simp at hx
  | a :: l, m, h, i, x, hx => by
    simp only [mapOpt] at h
    cases ha : f a with
    | none => simp [ha] at h
    | some y =>
      cases hl : mapOpt f l with
      | none => simp [ha, hl] at h
      | some ys =>
        simp [ha, hl] at h
        subst h
        cases i with
        | zero => simp at hx; subst hx; exact ⟨y, ha, by simp⟩
        | succ i => simpa using mapOpt_get hl i x (by simpa using hx)

theorem sem_light {call : CallFn} {T : List AV} {op : Op} (hh : isHeavy P op = false) {k : Heap → Option (AV × Heap)} : sem P call T op ≠ some (.heavy k) := by
  intro h
  cases op
  case store => simp [isHeavy] at hh
  case mapUpdate => simp [isHeavy] at hh
  case insert => simp [isHeavy] at hh
  case call c =>
    simp only [sem, callSem] at h
    split at h
    · cases h
    · split at h
      · rename_i b hb
        simp only [isHeavy, hb] at hh
        unfold builtinSem at h
        split at h <;> first | (simp at hh; done) | (exact lenSem_light h) | (exact capSem_light h) | (simp at h; done)
      · rename_i f hf
        simp [isHeavy, hf] at hh
      · cases h
  case convert src dst x =>
    simp only [sem] at h
    split at h
    · exact convSem_light (by simpa [isHeavy] using hh) h
    · cases h
  case binOp => simp only [sem] at h; (repeat' split at h) <;> first | (exact binSem_light h) | (simp at h)
  case lookup => simp only [sem] at h; (repeat' split at h) <;> first | (exact lookupSem_light h) | (simp at h)
  case makeSlice => simp only [sem] at h; (repeat' split at h) <;> first | (exact makeSliceSem_light h) | (simp at h)
  case buildSlice => simp only [sem] at h; (repeat' split at h) <;> first | (exact buildSliceA_light h) | (simp at h)
  all_goals (simp only [sem] at h; first | (cases h; done) | ((repeat' split at h) <;> simp at h))

/-- How many heavy operations must stand ahead of one. -/
def loOf (P : Program) (ops : Array Oper) (i : Nat) : Nat := ((heavies P ops.toList 0).filter fun h => ((befores ops).getD i 0).testBit h).length

def DW (P : Program) (prims : Prims) (N : Nat) (ops : Array Oper) (n0 : Nat) (is : List Nat) (e : Nat → AV) (H : Heap) (snaps : List Heap) (K : (Nat → AV) → Heap → Prop) : Prop :=
  ∃ n e' H' sn, drun P (acall P prims n) ops (befores ops) (heavies P ops.toList 0) n0 is { T := tab N e, H := H, snaps := snaps } = some { T := tab N e', H := H', snaps := sn } ∧ K e' H'

theorem DW.nil {ops : Array Oper} {n0 : Nat} {e : Nat → AV} {H : Heap} {snaps : List Heap} {K : (Nat → AV) → Heap → Prop} (h : K e H) : DW P prims N ops n0 [] e H snaps K :=
  ⟨0, e, H, snaps, rfl, h⟩

theorem DW.step {ops : Array Oper} {n0 i : Nat} {is : List Nat} {e e1 : Nat → AV} {H H1 : Heap} {snaps sn1 : List Heap} {K : (Nat → AV) → Heap → Prop} {n : Nat}
    (hs : dstep P (acall P prims n) ops (befores ops) (heavies P ops.toList 0) n0 i { T := tab N e, H := H, snaps := snaps } = some { T := tab N e1, H := H1, snaps := sn1 })
    (h : DW P prims N ops n0 is e1 H1 sn1 K) : DW P prims N ops n0 (i :: is) e H snaps K := by
  obtain ⟨m, e', H', sn, hr, k⟩ := h
  refine ⟨max n m, e', H', sn, ?_, k⟩
  unfold drun
  rw [dstep_le (acall_le (Nat.le_max_left n m)) hs]
  exact drun_le (acall_le (Nat.le_max_right n m)) hr

/-- What a read of the region may look at. -/
def Calm (H : Heap) (n0 : Nat) (snaps : List Heap) (m : Nat) (b : Nat) : Prop := ∃ o, H.get b = some o ∧ ∀ S ∈ snaps.take m, S.get b = some o

theorem light_of_opR {ops : Array Oper} {n0 i : Nat} {o : Oper} {e : Nat → AV} {H H' : Heap} {snaps : List Heap} {v : AV} {call : CallFn} (hcall : CLe noCall call) (hh : isHeavy P o.op = false) (hw : wantedA ops (tab N e) o = true) (hwf : Wf H)
    (hr : opR P N e o.op H = some (v, H')) (hm : snaps.length - loOf P ops i ≤ 1 ∨ ∀ bs k, sem P noCall (tab N e) o.op = some (.read bs k) → ∀ b ∈ bs, Calm H n0 snaps (snaps.length - loOf P ops i) b) :
    ∃ x, lightRes P call ops (befores ops) (heavies P ops.toList 0) n0 i o { T := tab N e, H := H, snaps := snaps } = some (v, x) ∧ pushO H x = H' := by
  have hsem : ∀ s, sem P noCall (tab N e) o.op = some s → sem P call (tab N e) o.op = some s := by
    intro s hs
    rcases sem_le (P := P) hcall (tab N e) o.op with h | ⟨k, l, h1, h2, _⟩
    · rw [← h]; exact hs
    · exact absurd h1 (sem_light hh)
  rw [opR_eq] at hr
  unfold lightRes
  rw [if_pos hw]
  cases hs : sem P noCall (tab N e) o.op with
  | none => rw [hs] at hr; cases hr
  | some s =>
    rw [hs] at hr
    simp only [hsem s hs]
    cases s with
    | pure u => simp only [Sm.run, Option.some.injEq, Prod.mk.injEq] at hr; obtain ⟨rfl, rfl⟩ := hr; exact ⟨none, rfl, rfl⟩
    | alloc o mk => simp only [Sm.run, Option.some.injEq, Prod.mk.injEq] at hr; obtain ⟨rfl, rfl⟩ := hr; exact ⟨some o, rfl, rfl⟩
    | heavy k => exact absurd hs (sem_light hh)
    | read bs k =>
      simp only [Sm.run] at hr
      cases hos : mapOpt H.get bs with
      | none => rw [hos] at hr; cases hr
      | some os =>
        rw [hos] at hr
        simp only [] at hr
        cases hk : k os with
        | none => rw [hk] at hr; cases hr
        | some u =>
          rw [hk] at hr
          simp only [Option.some.injEq, Prod.mk.injEq] at hr
          obtain ⟨rfl, rfl⟩ := hr
          refine ⟨none, ?_, rfl⟩
          have hlt : bs.all (fun x => decide (x < H.next)) = true := by
            rw [List.all_eq_true]
            intro x hx
            rcases Nat.lt_or_ge x H.next with h | h
            · simpa using h
            · exfalso
              obtain ⟨j, hj⟩ := List.getElem?_of_mem hx
              obtain ⟨_, h2⟩ := mapOpt_get hos j x hj
              rw [hwf x h] at h2
              cases h2.1
          have hcond : (bs.all (fun x => decide (x < H.next)) && (decide (snaps.length - loOf P ops i ≤ 1) || bs.all (sameIn H n0 (snaps.take (snaps.length - loOf P ops i))))) = true := by
            rw [hlt, Bool.true_and, Bool.or_eq_true]
            rcases hm with hm | hm
            · left; simpa using hm
            · right
              rw [List.all_eq_true]
              intro x hx
              obtain ⟨o', h2, h3⟩ := hm bs k hs x hx
              unfold sameIn
              rw [h2]
              simp only []
              rw [List.all_eq_true]
              intro S hS
              rw [h3 S hS]
              exact AObj.beq_refl o'
          unfold loOf at hcond
          simp only [hcond, if_true, hos, hk]

/-- An operation's parts. -/
def opAt (ops : Array Oper) (i : Nat) : Option (Option Tmp × Op × Option (Nat × Bool)) :=
  match ops[i]? with
  | some o => some (o.dst, o.op, o.guard)
  | none => none

theorem opAt_some {ops : Array Oper} {i : Nat} {d : Option Tmp} {op : Op} {g : Option (Nat × Bool)} (h : opAt ops i = some (d, op, g)) : ∃ o, ops[i]? = some o ∧ o.dst = d ∧ o.op = op ∧ o.guard = g := by
  unfold opAt at h
  split at h
  · rename_i o ho
    simp only [Option.some.injEq, Prod.mk.injEq] at h
    exact ⟨o, ho, h.1, h.2.1, h.2.2⟩
  · cases h

/-- A guard that is met, or none. -/
def Met (ops : Array Oper) (e : Nat → AV) (N : Nat) : Option (Nat × Bool) → Prop
  | none => True
  | some (j, want) => ∃ d', yDst ops j = some d' ∧ d' < N ∧ e d' = .bool want

def Unmet (ops : Array Oper) (e : Nat → AV) (N : Nat) : Option (Nat × Bool) → Prop
  | none => False
  | some (j, want) => ∃ d', yDst ops j = some d' ∧ d' < N ∧ e d' = .bool !want

theorem Met.wanted {ops : Array Oper} {e : Nat → AV} {o : Oper} (h : Met ops e N o.guard) : wantedA ops (tab N e) o = true := by
  cases hg : o.guard with
  | none => simp [wantedA, hg]
  | some p =>
    obtain ⟨j, want⟩ := p
    rw [hg] at h
    obtain ⟨d', h1, h2, h3⟩ := h
    rw [wanted_guard hg h1 h2 h3]
    simp

theorem Unmet.unwanted {ops : Array Oper} {e : Nat → AV} {o : Oper} (h : Unmet ops e N o.guard) : wantedA ops (tab N e) o = false := by
  cases hg : o.guard with
  | none => rw [hg] at h; exact h.elim
  | some p =>
    obtain ⟨j, want⟩ := p
    rw [hg] at h
    obtain ⟨d', h1, h2, h3⟩ := h
    rw [wanted_guard hg h1 h2 h3]
    simp

section
variable {ops : Array Oper} {n0 i : Nat} {is : List Nat} {e : Nat → AV} {H H' : Heap} {snaps : List Heap} {K : (Nat → AV) → Heap → Prop} {d : Option Tmp} {op : Op} {g : Option (Nat × Bool)} {v : AV}

theorem DW.light (ho : opAt ops i = some (d, op, g)) (hh : isHeavy P op = false) (hg : Met ops e N g) (hwf : Wf H) (hr : opR P N e op H = some (v, H'))
    (hm : snaps.length - loOf P ops i ≤ 1 ∨ ∀ bs k, sem P noCall (tab N e) op = some (.read bs k) → ∀ b ∈ bs, Calm H n0 snaps (snaps.length - loOf P ops i) b)
    (h : DW P prims N ops n0 is (setEO e d v) H' snaps K) : DW P prims N ops n0 (i :: is) e H snaps K := by
  obtain ⟨o, h1, rfl, rfl, rfl⟩ := opAt_some ho
  obtain ⟨x, h2, h3⟩ := light_of_opR (call := acall P prims 0) (noCall_le _) hh hg.wanted hwf hr hm
  refine DW.step (n := 0) (e1 := setEO e o.dst v) (H1 := H') (sn1 := snaps) ?_ h
  unfold dstep
  simp only [h1, hh, Bool.false_eq_true, if_false, h2, put_tab, h3]

theorem DW.heavy {n : Nat} (ho : opAt ops i = some (d, op, g)) (hh : isHeavy P op = true) (hg : Met ops e N g) (hr : ∀ o : Oper, o.op = op → runOp P (acall P prims n) (tab N e) o H = some (v, H'))
    (h : DW P prims N ops n0 is (setEO e d v) H' (H' :: snaps) K) : DW P prims N ops n0 (i :: is) e H snaps K := by
  obtain ⟨o, h1, rfl, rfl, rfl⟩ := opAt_some ho
  refine DW.step (n := n) (e1 := setEO e o.dst v) (H1 := H') (sn1 := H' :: snaps) ?_ h
  unfold dstep
  simp only [h1, hh, if_true, hg.wanted, hr o rfl, put_tab]

theorem DW.hop (ho : opAt ops i = some (d, op, g)) (hh : isHeavy P op = true) (hg : Met ops e N g) (hr : opR P N e op H = some (v, H'))
    (h : DW P prims N ops n0 is (setEO e d v) H' (H' :: snaps) K) : DW P prims N ops n0 (i :: is) e H snaps K := by
  refine DW.heavy (n := 0) ho hh hg (fun o h1 => ?_) h
  subst h1
  exact runOp_le (noCall_le _) (by rw [opR_eq] at hr; exact hr)

theorem DW.call {xs : Array Operand} {ts : Array TypeId} {f : FuncId} {args : List AV} (ho : opAt ops i = some (d, .call { callee := .value (.func f), args := xs, argTypes := ts }, g)) (hg : Met ops e N g)
    (ha : mapOpt (ev P (tab N e)) xs.toList = some args)
    (h : CallsA P prims f args H fun v H' => DW P prims N ops n0 is (setEO e d v) H' (H' :: snaps) K) : DW P prims N ops n0 (i :: is) e H snaps K := by
  unfold CallsA at h
  obtain ⟨n, v, H', hr, k⟩ := h
  refine DW.heavy (n := n) ho rfl hg (fun o h1 => ?_) k
  simp only [runOp, h1, sem, callSem, ha, ev, Sm.run, List.nil_append, List.append_nil, hr]

theorem DW.skipL (ho : opAt ops i = some (d, op, g)) (hh : isHeavy P op = false) (hg : Unmet ops e N g)
    (h : DW P prims N ops n0 is (setEO e d .undef) H snaps K) : DW P prims N ops n0 (i :: is) e H snaps K := by
  obtain ⟨o, h1, rfl, rfl, rfl⟩ := opAt_some ho
  refine DW.step (n := 0) (e1 := setEO e o.dst .undef) (H1 := H) (sn1 := snaps) ?_ h
  unfold dstep lightRes
  simp only [h1, hh, Bool.false_eq_true, if_false, hg.unwanted, put_tab, pushO]

theorem DW.skipH (ho : opAt ops i = some (d, op, g)) (hh : isHeavy P op = true) (hg : Unmet ops e N g)
    (h : DW P prims N ops n0 is (setEO e d .undef) H (H :: snaps) K) : DW P prims N ops n0 (i :: is) e H snaps K := by
  obtain ⟨o, h1, rfl, rfl, rfl⟩ := opAt_some ho
  refine DW.step (n := 0) (e1 := setEO e o.dst .undef) (H1 := H) (sn1 := H :: snaps) ?_ h
  unfold dstep
  simp only [h1, hh, if_true, hg.unwanted, Bool.false_eq_true, if_false, put_tab]

/-- The order that is walked is the one in which it is run, and nobody can tell it from another. -/
def dOk (P : Program) (ops : Array Oper) (c : List Nat) : Bool := canonGo (befores ops) ops.size (heavies P ops.toList 0) 0 == c && drawOk P ops (befores ops) c

theorem Wp.regionD {id : Nat} {Q : Post} (c : List Nat) (hc : dOk P ops c = true) (h : DW P prims N ops H.next c e H [H] (Q .normal)) : Wp P prims N (.region id ops true) e H Q := by
  unfold dOk at hc
  rw [Bool.and_eq_true, beq_iff_eq] at hc
  obtain ⟨h1, h2⟩ := hc
  unfold DW at h
  obtain ⟨n, e', H', sn, hr, k⟩ := h
  unfold Wp
  refine ⟨n, .normal, e', H', ?_, k⟩
  simp only [runCode, runRegion, if_true, h1, drawRun, h2, hr]

end
end
attribute [irreducible] DW
end Go.Abs
