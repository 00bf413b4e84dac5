/- More fuel gives the same answer: a call that ends with some fuel ends so with more. -/
import Derived.Test.YtpcchlcbmhmopaaAbCode
namespace Go.Abs
set_option linter.unusedVariables false

def CLe (c d : CallFn) : Prop := ∀ f a H r, c f a H = some r → d f a H = some r

def SmLe (s t : Option Sm) : Prop := s = t ∨ ∃ k l, s = some (.heavy k) ∧ t = some (.heavy l) ∧ ∀ H r, k H = some r → l H = some r

theorem sem_le {P : Program} {c d : CallFn} (h : CLe c d) (T : List AV) (op : Op) : SmLe (sem P c T op) (sem P d T op) := by
  cases op with
  | call cl =>
    simp only [sem, callSem]
    cases mapOpt (ev P T) cl.args.toList with
    | none => exact .inl rfl
    | some args =>
      cases cl.callee with
      | builtin b => exact .inl rfl
      | invoke _ _ => exact .inl rfl
      | value f =>
        cases hf : ev P T f with
        | none => exact .inl (by simp [hf])
        | some v =>
          cases v with
          | func fn xs ys =>
            cases fn with
            | func g =>
              refine .inr ⟨fun H => c g (xs ++ args ++ ys) H, fun H => d g (xs ++ args ++ ys) H, ?_, ?_, fun H r hr => h _ _ _ _ hr⟩ <;> simp [hf]
            | _ => exact .inl (by simp [hf])
          | _ => exact .inl (by simp [hf])
  | _ => exact .inl rfl

theorem runOp_le {P : Program} {c d : CallFn} (h : CLe c d) {T : List AV} {o : Oper} {H : Heap} {r : AV × Heap} (hr : runOp P c T o H = some r) : runOp P d T o H = some r := by
  unfold runOp at hr ⊢
  rcases sem_le (P := P) h T o.op with e | ⟨k, l, e1, e2, hk⟩
  · rw [← e]; exact hr
  · rw [e1] at hr
    rw [e2]
    exact hk _ _ hr

theorem runOps_le {P : Program} {c d : CallFn} (h : CLe c d) (ops : Array Oper) : ∀ (l : List Oper) (T : List AV) (H : Heap) (r : List AV × Heap), runOps P c ops l T H = some r → runOps P d ops l T H = some r
  | [], T, H, r, hr => hr
  | o :: os, T, H, r, hr => by
    unfold runOps at hr ⊢
    split at hr
    · rename_i hw
      rw [if_pos hw]
      cases he : runOp P c T o H with
      | none => rw [he] at hr; cases hr
      | some p =>
        rw [he] at hr
        rw [runOp_le h he]
        exact runOps_le h ops os _ _ _ hr
    · rename_i hw
      rw [if_neg hw]
      exact runOps_le h ops os _ _ _ hr

theorem lightRes_le {P : Program} {c d : CallFn} (h : CLe c d) {ops : Array Oper} {b : Array Nat} {hv : List Nat} {n0 i : Nat} {o : Oper} {s : St} {r : AV × Option AObj}
    (hr : lightRes P c ops b hv n0 i o s = some r) : lightRes P d ops b hv n0 i o s = some r := by
  unfold lightRes at hr ⊢
  split at hr
  · rename_i hw
    rw [if_pos hw]
    rcases sem_le (P := P) h s.T o.op with e | ⟨k, l, e1, e2, hk⟩
    · rw [← e]; exact hr
    · rw [e1] at hr; cases hr
  · rename_i hw
    rw [if_neg hw]
    exact hr

theorem dstep_le {P : Program} {c d : CallFn} (h : CLe c d) {ops : Array Oper} {b : Array Nat} {hv : List Nat} {n0 i : Nat} {s r : St}
    (hr : dstep P c ops b hv n0 i s = some r) : dstep P d ops b hv n0 i s = some r := by
  unfold dstep at hr ⊢
  cases ho : ops[i]? with
  | none => rw [ho] at hr; cases hr
  | some o =>
    rw [ho] at hr
    simp only [] at hr ⊢
    split at hr
    · rename_i hh
      rw [if_pos hh]
      split at hr
      · rename_i hw
        rw [if_pos hw]
        cases he : runOp P c s.T o s.H with
        | none => rw [he] at hr; cases hr
        | some p => rw [he] at hr; rw [runOp_le h he]; exact hr
      · rename_i hw
        rw [if_neg hw]
        exact hr
    · rename_i hh
      rw [if_neg hh]
      cases he : lightRes P c ops b hv n0 i o s with
      | none => rw [he] at hr; cases hr
      | some p => rw [he] at hr; rw [lightRes_le h he]; exact hr

theorem drun_le {P : Program} {c d : CallFn} (h : CLe c d) {ops : Array Oper} {b : Array Nat} {hv : List Nat} {n0 : Nat} : ∀ {is : List Nat} {s r : St},
    drun P c ops b hv n0 is s = some r → drun P d ops b hv n0 is s = some r
  | [], s, r, hr => hr
  | i :: is, s, r, hr => by
    unfold drun at hr ⊢
    cases he : dstep P c ops b hv n0 i s with
    | none => rw [he] at hr; cases hr
    | some p =>
      rw [he] at hr
      rw [dstep_le h he]
      exact drun_le h hr

theorem runRegion_le {P : Program} {c d : CallFn} (h : CLe c d) {ops : Array Oper} {draw : Bool} {T : List AV} {H : Heap} {r : List AV × Heap}
    (hr : runRegion P c ops draw T H = some r) : runRegion P d ops draw T H = some r := by
  unfold runRegion at hr ⊢
  cases draw with
  | false => exact runOps_le h ops _ _ _ _ hr
  | true =>
    simp only [if_true, drawRun] at hr ⊢
    split at hr
    · rename_i hd
      rw [if_pos hd]
      split at hr
      · rename_i s hs
        rw [drun_le h hs]
        exact hr
      · cases hr
    · cases hr

def OLe (f g : List AV → Heap → Out) : Prop := ∀ T H r, f T H = some r → g T H = some r

theorem runLoop_le {f g : List AV → Heap → Out} (h : OLe f g) : ∀ (n m : Nat), n ≤ m → OLe (runLoop f n) (runLoop g m)
  | 0, m, hm, T, H, r, hr => by cases hr
  | n + 1, 0, hm, T, H, r, hr => by omega
  | n + 1, m + 1, hm, T, H, r, hr => by
    unfold runLoop at hr ⊢
    cases he : f T H with
    | none => rw [he] at hr; cases hr
    | some p =>
      rw [he] at hr
      rw [h _ _ _ he]
      obtain ⟨x, T', H'⟩ := p
      cases x with
      | normal => exact runLoop_le h n m (by omega) _ _ _ hr
      | exit _ => exact hr
      | ret => exact hr

theorem runCode_le {P : Program} {c d : CallFn} (h : CLe c d) {n m : Nat} (hn : n ≤ m) : ∀ (code : Code), OLe (runCode P c n code) (runCode P d m code) := by
  intro code
  induction code with
  | skip => exact fun T H r hr => hr
  | label _ => exact fun T H r hr => hr
  | ret => exact fun T H r hr => hr
  | exit _ => exact fun T H r hr => hr
  | scope b ih => exact fun T H r hr => ih T H r hr
  | region id ops draw =>
    intro T H r hr
    simp only [runCode] at hr ⊢
    cases he : runRegion P c ops draw T H with
    | none => rw [he] at hr; cases hr
    | some p => rw [he] at hr; rw [runRegion_le h he]; exact hr
  | seq a b iha ihb =>
    intro T H r hr
    simp only [runCode] at hr ⊢
    cases he : runCode P c n a T H with
    | none => rw [he] at hr; cases hr
    | some p =>
      rw [he] at hr
      rw [iha _ _ _ he]
      obtain ⟨x, T', H'⟩ := p
      cases x with
      | normal => exact ihb _ _ _ hr
      | exit _ => exact hr
      | ret => exact hr
  | cond x a b iha ihb =>
    intro T H r hr
    simp only [runCode] at hr ⊢
    split at hr
    · exact iha _ _ _ hr
    · exact ihb _ _ _ hr
    · cases hr
  | block id b ih =>
    intro T H r hr
    simp only [runCode] at hr ⊢
    cases he : runCode P c n b T H with
    | none => rw [he] at hr; cases hr
    | some p =>
      rw [he] at hr
      rw [ih _ _ _ he]
      exact hr
  | loop b ih => exact runLoop_le (fun T H r hr => ih T H r hr) n m hn
  | _ => exact fun T H r hr => by simp [runCode] at hr

theorem acall_le {P : Program} {prims : Prims} : ∀ {n m : Nat}, n ≤ m → CLe (acall P prims n) (acall P prims m)
  | 0, m, hm, f, a, H, r, hr => by cases hr
  | n + 1, 0, hm, f, a, H, r, hr => by omega
  | n + 1, m + 1, hm, f, a, H, r, hr => by
    unfold acall at hr ⊢
    cases hp : prims f with
    | some g => rw [hp] at hr; exact hr
    | none =>
      rw [hp] at hr
      simp only [] at hr ⊢
      cases hf : P.funcs[f]? with
      | none => rw [hf] at hr; cases hr
      | some fn =>
        rw [hf] at hr
        simp only [runBody] at hr ⊢
        cases hb : fn.body with
        | none => rw [hb] at hr; cases hr
        | some code =>
          rw [hb] at hr
          simp only [] at hr ⊢
          have ih : CLe (acall P prims n) (acall P prims m) := acall_le (by omega)
          cases hc : runCode P (acall P prims n) n code (a ++ List.replicate (fn.ntmps - a.length) .undef) H with
          | none => rw [hc] at hr; cases hr
          | some p =>
            rw [hc] at hr
            rw [runCode_le ih (by omega) code _ _ _ hc]
            exact hr

end Go.Abs
