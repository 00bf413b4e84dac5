/- Texts on the abstract machine, joined. -/
import Derived.Test.YtdndkchlkgldmaaKit02
import Derived.Test.YtdndkchlkgldmaaKit03
import Derived.Laws.Externs

/- Whatever is run: numbers only grow, and nothing lies beyond the next one. -/
namespace Go.Abs
set_option linter.unusedVariables false
set_option linter.unusedSimpArgs false

/-- What every step keeps. -/
def Rl (H H' : Heap) : Prop := H.next ≤ H'.next ∧ (Wf H → Wf H')
theorem Rl.refl (H : Heap) : Rl H H := ⟨Nat.le_refl _, id⟩
theorem Rl.trans {H H1 H2 : Heap} (h : Rl H H1) (g : Rl H1 H2) : Rl H H2 := ⟨Nat.le_trans h.1 g.1, fun w => g.2 (h.2 w)⟩
theorem Rl.push (H : Heap) (o : AObj) : Rl H (H.push o) := ⟨by simp, push_wf o⟩
theorem Rl.set {H : Heap} {b : Nat} {o : AObj} (h : H.get b = some o) (o' : AObj) : Rl H (H.set b o') := ⟨by simp, fun w => set_wf (w.lt h) o' w⟩

def CallRl (call : CallFn) : Prop := ∀ f args H v H', call f args H = some (v, H') → Rl H H'

theorem writeCells_rl {H H' : Heap} {b o : Nat} {vs : List AV} (h : writeCells H b o vs = some H') : Rl H H' := by
  unfold writeCells at h
  split at h
  · obtain rfl := Option.some.inj h; exact Rl.refl _
  · split at h
    · split at h
      · obtain rfl := Option.some.inj h; exact Rl.set (by assumption) _
      · cases h
    · cases h

theorem appendA_rl {elem : TypeId} {size bytes : Nat} {base : Option (Nat × Nat)} {sLen sCap : Nat} {sl : Option Nat} {n : Nat} {new : List AV} {H H' : Heap} {v : AV}
    (h : appendA elem size bytes base sLen sCap sl n new H = some (v, H')) : Rl H H' := by
  rcases appendA_cases h with ⟨_, hh⟩ | ⟨_, _, old, _, _, hh⟩
  · rcases hh with ⟨_, _, rfl⟩ | ⟨b, o, _, hw, _⟩
    · exact Rl.refl _
    · exact writeCells_rl hw
  · rcases hh with ⟨_, rfl⟩ | ⟨b, o, c, e, _, _, hg, _, _, rfl⟩
    · exact Rl.push _ _
    · exact (Rl.set hg _).trans (Rl.push _ _)

/-- The heavy operations that are no calls. -/
def Sm.Rls (s : Sm) : Prop := ∀ H v H', s.run H = some (v, H') → Rl H H'

theorem rl_pure (v : AV) : (Sm.pure v).Rls := by
  intro H v' H' h
  simp only [Sm.run, Option.some.injEq, Prod.mk.injEq] at h
  rw [h.2]; exact Rl.refl _

theorem rl_alloc (o : AObj) (mk : Nat → AV) : (Sm.alloc o mk).Rls := by
  intro H v' H' h
  simp only [Sm.run, Option.some.injEq, Prod.mk.injEq] at h
  rw [← h.2]; (first | exact Rl.refl _ | exact Rl.push _ _ | exact Rl.set (by assumption) _)

theorem rl_read (bs : List Nat) (k : List AObj → Option AV) : (Sm.read bs k).Rls := by
  intro H v' H' h
  simp only [Sm.run] at h
  split at h
  · split at h
    · simp only [Option.some.injEq, Prod.mk.injEq] at h
      rw [h.2]; exact Rl.refl _
    · cases h
  · cases h

theorem rl_map {o : Option AV} {s : Sm} (h : o.map Sm.pure = some s) : s.Rls := by
  cases o with
  | none => cases h
  | some v => simp at h; subst h; exact rl_pure v

theorem eqSem_rl {P : Program} {t : TypeId} {x y : AV} {neg : Bool} {s : Sm} (h : eqSem P t x y neg = some s) : s.Rls := by
  unfold eqSem at h
  split at h <;> (try (obtain rfl := Option.some.inj h; exact rl_pure _)) <;> (try (cases h; done))
  · split at h
    · cases h
    · split at h
      · obtain rfl := Option.some.inj h; exact rl_pure _
      · obtain rfl := Option.some.inj h; exact rl_read _ _
  all_goals
    split at h
    · cases h
    · split at h
      · obtain rfl := Option.some.inj h; exact rl_pure _
      · cases h

theorem binSem_rl {P : Program} {op : BinOp} {t : TypeId} {x y : AV} {s : Sm} (h : binSem P op t x y = some s) : s.Rls := by
  unfold binSem at h
  split at h
  · exact rl_map h
  · exact rl_map h
  · split at h
    · exact rl_map h
    · cases h
  · exact rl_map h
  · split at h
    · obtain rfl := Option.some.inj h; exact rl_pure _
    · cases h
  · split at h
    · obtain rfl := Option.some.inj h; exact rl_pure _
    · cases h
  · exact eqSem_rl h
  · exact eqSem_rl h
  · cases h

theorem convSem_rl {P : Program} {src dst : TypeId} {x : AV} {s : Sm} (h : convSem P src dst x = some s) : s.Rls := by
  unfold convSem at h
  split at h
  · obtain rfl := Option.some.inj h; exact rl_pure _
  · obtain rfl := Option.some.inj h; exact rl_pure _
  · split at h
    · split at h
      · obtain rfl := Option.some.inj h; exact rl_alloc _ _
      · cases h
    · cases h
  · split at h
    · split at h
      · obtain rfl := Option.some.inj h
        intro H v H' hr
        simp only [Sm.run] at hr
        split at hr
        · simp only [Option.some.injEq, Prod.mk.injEq] at hr
          rw [← hr.2]; (first | exact Rl.refl _ | exact Rl.push _ _ | exact Rl.set (by assumption) _)
        · cases hr
      · cases h
    · cases h
  · split at h
    · obtain rfl := Option.some.inj h; exact rl_pure _
    · obtain rfl := Option.some.inj h; exact rl_read _ _
    · cases h
  · cases h

theorem builtinSem_rl {P : Program} {b : Builtin} {ts : Array TypeId} {args : List AV} {s : Sm} (h : builtinSem P b ts args = some s) : s.Rls := by
  unfold builtinSem at h
  split at h
  · unfold appendSem at h
    split at h
    · cases h
    split at h
    case h_2 => cases h
    split at h
    case h_2 => cases h
    split at h
    · cases h
    split at h
    · split at h
      · split at h
        · obtain rfl := Option.some.inj h
          intro H v H' hr
          exact appendA_rl hr
        · cases h
      · cases h
    · split at h
      · split at h
        · obtain rfl := Option.some.inj h
          intro H v H' hr
          simp only [Sm.run] at hr
          split at hr
          · split at hr
            · exact appendA_rl hr
            · cases hr
          · cases hr
        · cases h
      · cases h
  · unfold copySem at h
    split at h
    · cases h
    split at h
    case h_2 => cases h
    split at h
    case h_2 => cases h
    obtain rfl := Option.some.inj h
    intro H v H' hr
    simp only [Sm.run] at hr
    split at hr
    · split at hr
      · cases hr
      · split at hr
        · simp only [Option.some.injEq, Prod.mk.injEq] at hr
          rw [hr.2]; exact Rl.refl _
        · split at hr
          · rename_i hw
            simp only [Option.some.injEq, Prod.mk.injEq] at hr
            rw [← hr.2]; exact writeCells_rl hw
          · cases hr
    · cases hr
  · unfold clearSem at h
    split at h
    · cases h
    split at h
    · obtain rfl := Option.some.inj h; exact rl_pure _
    · obtain rfl := Option.some.inj h; exact rl_pure _
    · obtain rfl := Option.some.inj h
      intro H v H' hr
      simp only [Sm.run] at hr
      split at hr
      · simp only [Option.some.injEq, Prod.mk.injEq] at hr
        rw [← hr.2]; (first | exact Rl.refl _ | exact Rl.push _ _ | exact Rl.set (by assumption) _)
      · cases hr
    · split at h
      · obtain rfl := Option.some.inj h; exact rl_pure _
      · split at h
        case h_2 => cases h
        split at h
        · cases h
        obtain rfl := Option.some.inj h
        intro H v H' hr
        simp only [Sm.run] at hr
        split at hr
        · rename_i hw
          simp only [Option.some.injEq, Prod.mk.injEq] at hr
          rw [← hr.2]; exact writeCells_rl hw
        · cases hr
    · cases h
  · unfold deleteSem at h
    split at h
    · cases h
    split at h
    · split at h
      · obtain rfl := Option.some.inj h; exact rl_pure _
      · cases h
    · split at h
      · obtain rfl := Option.some.inj h
        intro H v H' hr
        simp only [Sm.run] at hr
        split at hr
        · split at hr
          · simp only [Option.some.injEq, Prod.mk.injEq] at hr
            rw [← hr.2]; (first | exact Rl.refl _ | exact Rl.push _ _ | exact Rl.set (by assumption) _)
          · simp only [Option.some.injEq, Prod.mk.injEq] at hr
            rw [hr.2]; exact Rl.refl _
          · cases hr
        · cases hr
      · cases h
    · cases h
  · unfold lenSem at h
    split at h
    · cases h
    split at h <;> (try (obtain rfl := Option.some.inj h; exact rl_pure _)) <;> (try (cases h; done))
    · obtain rfl := Option.some.inj h; exact rl_read _ _
    · split at h
      · obtain rfl := Option.some.inj h; exact rl_pure _
      · cases h
  · unfold capSem at h
    split at h
    · cases h
    split at h <;> first
      | (obtain rfl := Option.some.inj h; exact rl_pure _)
      | cases h
  · exact rl_map h
  · exact rl_map h
  · cases h

theorem sem_rl {P : Program} {call : CallFn} (hc : CallRl call) {T : List AV} {op : Op} {s : Sm} (h : sem P call T op = some s) : s.Rls := by
  cases op <;> simp only [sem] at h
  case move x => exact rl_map h
  case assign x => exact rl_map h
  case pick c x y =>
    split at h
    · obtain rfl := Option.some.inj h; exact rl_pure _
    · cases h
  case alloc e =>
    cases hz : tzero P e with
    | none => simp [hz] at h
    | some z => simp [hz] at h; subst h; exact rl_alloc _ _
  case box e x =>
    cases hz : ev P T x with
    | none => simp [hz] at h
    | some z => simp [hz] at h; subst h; exact rl_alloc _ _
  case build t parts =>
    split at h
    · exact rl_map h
    · cases h
  case buildSlice t n parts =>
    split at h
    · unfold buildSliceA at h
      split at h
      · split at h
        · split at h
          · cases h
          · split at h
            · obtain rfl := Option.some.inj h; exact rl_alloc _ _
            · cases h
        · cases h
      · cases h
    · cases h
  case load t x =>
    split at h
    · obtain rfl := Option.some.inj h; exact rl_read _ _
    · cases h
  case store t x y =>
    split at h
    · split at h
      · cases h
      · obtain rfl := Option.some.inj h
        intro H v H' hr
        simp only [Sm.run] at hr
        split at hr
        · rename_i hw
          simp only [Option.some.injEq, Prod.mk.injEq] at hr
          rw [← hr.2]; exact writeCells_rl hw
        · cases hr
    · cases h
  case nilCheck x =>
    split at h
    · obtain rfl := Option.some.inj h; exact rl_pure _
    · obtain rfl := Option.some.inj h; exact rl_pure _
    · cases h
  case binOp op t x y ty =>
    split at h
    · exact binSem_rl h
    · cases h
  case unOp op t x =>
    split at h
    · exact rl_map h
    · cases h
  case convert src dst x =>
    split at h
    · exact convSem_rl h
    · cases h
  case sliceToArrayPointer arr x =>
    split at h
    · split at h
      · cases h
      · split at h
        · cases h
        · obtain rfl := Option.some.inj h; exact rl_pure _
    · cases h
  case makeInterface t x =>
    split at h
    · cases h
    · obtain rfl := Option.some.inj h; exact rl_pure _
    · cases h
  case makeFunc fn first captured =>
    split at h
    · obtain rfl := Option.some.inj h; exact rl_pure _
    · cases h
  case makeMap t r =>
    split at h
    · obtain rfl := Option.some.inj h; exact rl_alloc _ _
    · split at h
      · obtain rfl := Option.some.inj h; exact rl_alloc _ _
      · cases h
    · cases h
  case makeSlice t l c =>
    split at h
    · unfold makeSliceSem at h
      split at h
      · split at h
        · split at h
          · obtain rfl := Option.some.inj h; exact rl_alloc _ _
          · cases h
        · cases h
      · cases h
    · cases h
  case slice t x lo hi mx =>
    split at h
    · exact rl_map h
    · cases h
  case fieldAddr st x f =>
    split at h
    · split at h
      · split at h
        · cases h
        · obtain rfl := Option.some.inj h; exact rl_pure _
      · cases h
    · cases h
  case field t x f =>
    split at h
    · split at h
      · exact rl_map h
      · cases h
    · cases h
  case indexAddr t x ix =>
    split at h
    · exact rl_map h
    · cases h
  case index t x ix =>
    split at h
    · exact rl_map h
    · cases h
  case lookup t x k ok =>
    split at h
    · unfold lookupSem at h
      split at h
      · split at h
        · split at h
          · obtain rfl := Option.some.inj h; exact rl_pure _
          · obtain rfl := Option.some.inj h; exact rl_read _ _
          · cases h
        · cases h
      · cases h
    · cases h
  case mapUpdate t m k x =>
    split at h
    · unfold updateSem at h
      split at h
      · split at h
        · obtain rfl := Option.some.inj h
          intro H v H' hr
          simp only [Sm.run] at hr
          split at hr
          · split at hr
            · simp only [Option.some.injEq, Prod.mk.injEq] at hr
              rw [← hr.2]; (first | exact Rl.refl _ | exact Rl.push _ _ | exact Rl.set (by assumption) _)
            · simp only [Option.some.injEq, Prod.mk.injEq] at hr
              rw [← hr.2]; (first | exact Rl.refl _ | exact Rl.push _ _ | exact Rl.set (by assumption) _)
            · cases hr
          · cases hr
        · cases h
      · cases h
    · cases h
  case insert t m k x =>
    split at h
    · unfold updateSem at h
      split at h
      · split at h
        · obtain rfl := Option.some.inj h
          intro H v H' hr
          simp only [Sm.run] at hr
          split at hr
          · split at hr
            · simp only [Option.some.injEq, Prod.mk.injEq] at hr
              rw [← hr.2]; (first | exact Rl.refl _ | exact Rl.push _ _ | exact Rl.set (by assumption) _)
            · simp only [Option.some.injEq, Prod.mk.injEq] at hr
              rw [← hr.2]; (first | exact Rl.refl _ | exact Rl.push _ _ | exact Rl.set (by assumption) _)
            · cases hr
          · cases hr
        · cases h
      · cases h
    · cases h
  case extract t ix =>
    split at h
    · exact rl_map h
    · cases h
  case range t x =>
    split at h
    · obtain rfl := Option.some.inj h; exact rl_alloc _ _
    · cases h
  case next x st =>
    split at h
    · obtain rfl := Option.some.inj h
      intro H v H' hr
      simp only [Sm.run] at hr
      split at hr
      · split at hr
        · injection hr with hr; injection hr with _ hr; rw [← hr]; exact Rl.set (by assumption) _
        · injection hr with hr; injection hr with _ hr; rw [← hr]; exact Rl.refl _
      · cases hr
    · cases h
  case call c =>
    unfold callSem at h
    split at h
    · cases h
    split at h
    · exact builtinSem_rl h
    · split at h
      · obtain rfl := Option.some.inj h
        intro H v H' hr
        exact hc _ _ _ _ _ hr
      · cases h
    · cases h
  all_goals cases h

theorem runOp_rl {P : Program} {call : CallFn} (hc : CallRl call) {T : List AV} {o : Oper} {H H' : Heap} {v : AV} (h : runOp P call T o H = some (v, H')) : Rl H H' := by
  unfold runOp at h
  split at h
  · rename_i s hs
    exact sem_rl hc hs H v H' h
  · cases h

theorem runOps_rl {P : Program} {call : CallFn} (hc : CallRl call) {ops : Array Oper} : ∀ {os : List Oper} {T T' : List AV} {H H' : Heap}, runOps P call ops os T H = some (T', H') → Rl H H'
  | [], T, T', H, H', h => by
    simp only [runOps, Option.some.injEq, Prod.mk.injEq] at h
    rw [h.2]; exact Rl.refl _
  | o :: os, T, T', H, H', h => by
    simp only [runOps] at h
    split at h
    · split at h
      · rename_i v H1 h1
        exact Rl.trans (runOp_rl hc h1) (runOps_rl hc h)
      · cases h
    · exact runOps_rl hc h

theorem dstep_rl {P : Program} {call : CallFn} (hc : CallRl call) {ops : Array Oper} {b : Array Nat} {hv : List Nat} {n0 i : Nat} {s s' : St} (h : dstep P call ops b hv n0 i s = some s') : Rl s.H s'.H := by
  unfold dstep at h
  split at h
  · cases h
  split at h
  · split at h
    · split at h
      · rename_i v H1 h1
        obtain rfl := Option.some.inj h
        exact runOp_rl hc h1
      · cases h
    · obtain rfl := Option.some.inj h
      exact Rl.refl _
  · split at h
    · rename_i v x _
      obtain rfl := Option.some.inj h
      cases x with
      | none => exact Rl.refl _
      | some o => exact Rl.push _ _
    · cases h

theorem drun_rl {P : Program} {call : CallFn} (hc : CallRl call) {ops : Array Oper} {b : Array Nat} {hv : List Nat} {n0 : Nat} : ∀ {is : List Nat} {s s' : St}, drun P call ops b hv n0 is s = some s' → Rl s.H s'.H
  | [], s, s', h => by
    simp only [drun, Option.some.injEq] at h
    rw [h]; exact Rl.refl _
  | i :: is, s, s', h => by
    simp only [drun] at h
    split at h
    · rename_i s1 h1
      exact Rl.trans (dstep_rl hc h1) (drun_rl hc h)
    · cases h

theorem runRegion_rl {P : Program} {call : CallFn} (hc : CallRl call) {ops : Array Oper} {draw : Bool} {T T' : List AV} {H H' : Heap} (h : runRegion P call ops draw T H = some (T', H')) : Rl H H' := by
  unfold runRegion at h
  split at h
  · unfold drawRun at h
    split at h
    · split at h
      · rename_i s hs
        simp only [Option.some.injEq, Prod.mk.injEq] at h
        rw [← h.2]
        exact drun_rl hc hs
      · cases h
    · cases h
  · exact runOps_rl hc h

theorem runLoop_rl {f : List AV → Heap → Out} (hf : ∀ T H e T' H', f T H = some (e, T', H') → Rl H H') : ∀ (n : Nat) (T T' : List AV) (H H' : Heap) (e : AX), runLoop f n T H = some (e, T', H') → Rl H H'
  | 0, T, T', H, H', e, h => by cases h
  | n + 1, T, T', H, H', e, h => by
    simp only [runLoop] at h
    split at h
    · rename_i T1 H1 h1
      exact Rl.trans (hf _ _ _ _ _ h1) (runLoop_rl hf n _ _ _ _ _ h)
    · exact hf _ _ _ _ _ h

theorem runCode_rl {P : Program} {call : CallFn} (hc : CallRl call) {n : Nat} : ∀ (c : Code) (T T' : List AV) (H H' : Heap) (e : AX), runCode P call n c T H = some (e, T', H') → Rl H H' := by
  intro c
  induction c with
  | skip => intro T T' H H' e h; simp only [runCode, Option.some.injEq, Prod.mk.injEq] at h; rw [h.2.2]; exact Rl.refl _
  | label l => intro T T' H H' e h; simp only [runCode, Option.some.injEq, Prod.mk.injEq] at h; rw [h.2.2]; exact Rl.refl _
  | region id ops draw =>
    intro T T' H H' e h
    simp only [runCode] at h
    split at h
    · rename_i T1 H1 h1
      simp only [Option.some.injEq, Prod.mk.injEq] at h
      rw [← h.2.2]
      exact runRegion_rl hc h1
    · cases h
  | seq a b iha ihb =>
    intro T T' H H' e h
    simp only [runCode] at h
    split at h
    · rename_i T1 H1 h1
      exact Rl.trans (iha _ _ _ _ _ h1) (ihb _ _ _ _ _ h)
    · exact iha _ _ _ _ _ h
  | cond c x y ihx ihy =>
    intro T T' H H' e h
    simp only [runCode] at h
    split at h
    · exact ihx _ _ _ _ _ h
    · exact ihy _ _ _ _ _ h
    · cases h
  | block id body ih =>
    intro T T' H H' e h
    simp only [runCode] at h
    split at h
    · rename_i id' T1 H1 h1
      split at h
      · simp only [Option.some.injEq, Prod.mk.injEq] at h
        rw [← h.2.2]
        exact ih _ _ _ _ _ h1
      · simp only [Option.some.injEq, Prod.mk.injEq] at h
        rw [← h.2.2]
        exact ih _ _ _ _ _ h1
    · exact ih _ _ _ _ _ h
  | loop body ih =>
    intro T T' H H' e h
    simp only [runCode] at h
    exact runLoop_rl (fun T H e T' H' h => ih T T' H H' e h) n T T' H H' e h
  | exit id => intro T T' H H' e h; simp only [runCode, Option.some.injEq, Prod.mk.injEq] at h; rw [h.2.2]; exact Rl.refl _
  | scope body ih => intro T T' H H' e h; simp only [runCode] at h; exact ih _ _ _ _ _ h
  | ret => intro T T' H H' e h; simp only [runCode, Option.some.injEq, Prod.mk.injEq] at h; rw [h.2.2]; exact Rl.refl _
  | rangeFunc f ps a b iha ihb => intro T T' H H' e h; simp [runCode] at h
  | goto l => intro T T' H H' e h; simp [runCode] at h
  | refuse why => intro T T' H H' e h; simp [runCode] at h

theorem runBody_rl {P : Program} {call : CallFn} (hc : CallRl call) {n : Nat} {fn : Func} {args : List AV} {H H' : Heap} {v : AV} (h : runBody P call n fn args H = some (v, H')) : Rl H H' := by
  unfold runBody at h
  split at h
  · cases h
  split at h
  · rename_i h1
    split at h
    · simp only [Option.some.injEq, Prod.mk.injEq] at h
      rw [← h.2]
      exact runCode_rl hc _ _ _ _ _ _ h1
    · cases h
  · rename_i h1
    split at h
    · simp only [Option.some.injEq, Prod.mk.injEq] at h
      rw [← h.2]
      exact runCode_rl hc _ _ _ _ _ _ h1
    · cases h
  · cases h

def PrimsRl (prims : Prims) : Prop := ∀ f g, prims f = some g → ∀ args H v H', g args H = some (v, H') → Rl H H'

theorem acall_rl {P : Program} {prims : Prims} (hp : PrimsRl prims) : ∀ n, CallRl (acall P prims n)
  | 0 => by intro f args H v H' h; cases h
  | n + 1 => by
    intro f args H v H' h
    simp only [acall] at h
    split at h
    · rename_i g hg
      exact hp f g hg _ _ _ _ h
    · split at h
      · exact runBody_rl (acall_rl hp n) h
      · cases h

end Go.Abs

/- The walking rules anew: that nothing lies beyond the next number is carried along unseen; a region that draws its order is walked in one order where no look could tell. -/
namespace Go.Abs
set_option linter.unusedVariables false
set_option linter.unusedSimpArgs false

section
variable (P : Program) (prims : Prims) (N : Nat)
def Cl (f : FuncId) (args : List AV) (H : Heap) (K : AV → Heap → Prop) : Prop := PrimsRl prims → Wf H → CallsA P prims f args H K
def Wq (c : Code) (e : Nat → AV) (H : Heap) (Q : Post) : Prop := PrimsRl prims → Wf H → Wp P prims N c e H Q
def Oq (ops : Array Oper) (l : List Oper) (e : Nat → AV) (H : Heap) (K : (Nat → AV) → Heap → Prop) : Prop := PrimsRl prims → Wf H → Ops P prims N ops l e H K
end

section
variable {P : Program} {prims : Prims} {N : Nat}

theorem CallsA.rl {f : FuncId} {args : List AV} {H : Heap} {K : AV → Heap → Prop} (hp : PrimsRl prims) (h : CallsA P prims f args H K) : CallsA P prims f args H fun v H' => Rl H H' ∧ K v H' := by
  unfold CallsA at h ⊢
  obtain ⟨n, v, H', hr, k⟩ := h
  exact ⟨n, v, H', hr, acall_rl hp n _ _ _ _ _ hr, k⟩
theorem Wp.rl {c : Code} {e : Nat → AV} {H : Heap} {Q : Post} (hp : PrimsRl prims) (h : Wp P prims N c e H Q) : Wp P prims N c e H fun x e' H' => Rl H H' ∧ Q x e' H' := by
  unfold Wp at h ⊢
  obtain ⟨n, x, e', H', hr, k⟩ := h
  exact ⟨n, x, e', H', hr, runCode_rl (acall_rl hp n) _ _ _ _ _ _ hr, k⟩
theorem Ops.mono {ops : Array Oper} {l : List Oper} {e : Nat → AV} {H : Heap} {K L : (Nat → AV) → Heap → Prop} (h : Ops P prims N ops l e H K) (hk : ∀ e' H', K e' H' → L e' H') : Ops P prims N ops l e H L := by
  unfold Ops at h ⊢
  obtain ⟨n, e', H', hr, k⟩ := h
  exact ⟨n, e', H', hr, hk _ _ k⟩
theorem Ops.rl {ops : Array Oper} {l : List Oper} {e : Nat → AV} {H : Heap} {K : (Nat → AV) → Heap → Prop} (hp : PrimsRl prims) (h : Ops P prims N ops l e H K) : Ops P prims N ops l e H fun e' H' => Rl H H' ∧ K e' H' := by
  unfold Ops at h ⊢
  obtain ⟨n, e', H', hr, k⟩ := h
  exact ⟨n, e', H', hr, runOps_rl (acall_rl hp n) hr, k⟩

/-- A contract used: numbers have only grown. -/
theorem Cl.mono {f : FuncId} {args : List AV} {H : Heap} {K L : AV → Heap → Prop} (h : Cl P prims f args H K) (hk : ∀ v H', H.next ≤ H'.next → K v H' → L v H') : Cl P prims f args H L :=
  fun hp hw => ((h hp hw).rl hp).mono fun v H' ⟨r, k⟩ => hk v H' r.1 k
theorem Wq.mono {c : Code} {e : Nat → AV} {H : Heap} {Q R : Post} (h : Wq P prims N c e H Q) (hk : ∀ x e' H', H.next ≤ H'.next → Q x e' H' → R x e' H') : Wq P prims N c e H R :=
  fun hp hw => ((h hp hw).rl hp).mono fun x e' H' ⟨r, k⟩ => hk x e' H' r.1 k
/-- What is below the next number, wherever it is wanted. -/
theorem Cl.wf {f : FuncId} {args : List AV} {H : Heap} {K : AV → Heap → Prop} (h : Wf H → Cl P prims f args H K) : Cl P prims f args H K := fun hp hw => h hw hp hw
theorem Wq.wf {c : Code} {e : Nat → AV} {H : Heap} {Q : Post} (h : Wf H → Wq P prims N c e H Q) : Wq P prims N c e H Q := fun hp hw => h hw hp hw
theorem Oq.wf {ops : Array Oper} {l : List Oper} {e : Nat → AV} {H : Heap} {K : (Nat → AV) → Heap → Prop} (h : Wf H → Oq P prims N ops l e H K) : Oq P prims N ops l e H K := fun hp hw => h hw hp hw
/-- Here the memory is well formed. -/
def WfK (K : AV → Heap → Prop) : AV → Heap → Prop := fun v H => Wf H → K v H
theorem Cl.wfK {f : FuncId} {args : List AV} {H : Heap} {K : AV → Heap → Prop} (h : Cl P prims f args H (WfK K)) : Cl P prims f args H K :=
  fun hp hw => ((h hp hw).rl hp).mono fun v H' ⟨r, k⟩ => k (r.2 hw)

theorem Wq.skip {e : Nat → AV} {H : Heap} {Q : Post} (h : Q .normal e H) : Wq P prims N .skip e H Q := fun _ _ => Wp.skip h
theorem Wq.ret {e : Nat → AV} {H : Heap} {Q : Post} (h : Q .ret e H) : Wq P prims N .ret e H Q := fun _ _ => Wp.ret h
theorem Wq.exit {id : Nat} {e : Nat → AV} {H : Heap} {Q : Post} (h : Q (.exit id) e H) : Wq P prims N (.exit id) e H Q := fun _ _ => Wp.exit h
theorem Wq.scope {c : Code} {e : Nat → AV} {H : Heap} {Q : Post} (h : Wq P prims N c e H Q) : Wq P prims N (.scope c) e H Q := fun hp hw => Wp.scope (h hp hw)

def Thenq (P : Program) (prims : Prims) (N : Nat) (b : Code) (Q : Post) : Post
  | .normal, e, H => Wq P prims N b e H Q
  | .exit id, e, H => Q (.exit id) e H
  | .ret, e, H => Q .ret e H
theorem Thenq.normal {b : Code} {Q : Post} {e : Nat → AV} {H : Heap} (h : Wq P prims N b e H Q) : Thenq P prims N b Q .normal e H := h
theorem Thenq.exit {b : Code} {Q : Post} {e : Nat → AV} {H : Heap} {id : Nat} (h : Q (.exit id) e H) : Thenq P prims N b Q (.exit id) e H := h
theorem Thenq.ret {b : Code} {Q : Post} {e : Nat → AV} {H : Heap} (h : Q .ret e H) : Thenq P prims N b Q .ret e H := h

theorem Wq.seq {a b : Code} {e : Nat → AV} {H : Heap} {Q : Post} (h : Wq P prims N a e H (Thenq P prims N b Q)) : Wq P prims N (.seq a b) e H Q := by
  intro hp hw
  refine Wp.seq (((h hp hw).rl hp).mono fun x e' H' ⟨r, k⟩ => ?_)
  cases x with
  | normal =>
    have k' : Wq P prims N b e' H' Q := k
    exact Then.normal (k' hp (r.2 hw))
  | exit id => exact Then.exit k
  | ret => exact Then.ret k

theorem Wq.cond {c : Operand} {x y : Code} {e : Nat → AV} {H : Heap} {Q : Post} {b : Bool} (hc : ev P (tab N e) c = some (.bool b))
    (hx : b = true → Wq P prims N x e H Q) (hy : b = false → Wq P prims N y e H Q) : Wq P prims N (.cond c x y) e H Q :=
  fun hp hw => Wp.cond hc (fun h => hx h hp hw) (fun h => hy h hp hw)
theorem Wq.condT {c : Operand} {x y : Code} {e : Nat → AV} {H : Heap} {Q : Post} (hc : ev P (tab N e) c = some (.bool true)) (hx : Wq P prims N x e H Q) : Wq P prims N (.cond c x y) e H Q := fun hp hw => Wp.condT hc (hx hp hw)
theorem Wq.condF {c : Operand} {x y : Code} {e : Nat → AV} {H : Heap} {Q : Post} (hc : ev P (tab N e) c = some (.bool false)) (hy : Wq P prims N y e H Q) : Wq P prims N (.cond c x y) e H Q := fun hp hw => Wp.condF hc (hy hp hw)
theorem Wq.condD {c : Operand} {x y : Code} {e : Nat → AV} {H : Heap} {Q : Post} {p : Prop} [Decidable p] (hc : ev P (tab N e) c = some (.bool (decide p)))
    (hx : p → Wq P prims N x e H Q) (hy : ¬ p → Wq P prims N y e H Q) : Wq P prims N (.cond c x y) e H Q :=
  fun hp hw => Wp.condD hc (fun h => hx h hp hw) (fun h => hy h hp hw)
theorem Wq.block {id : Nat} {c : Code} {e : Nat → AV} {H : Heap} {Q : Post} (h : Wq P prims N c e H (Left id Q)) : Wq P prims N (.block id c) e H Q := fun hp hw => Wp.block (h hp hw)

/-- What is wanted behind a round. -/
def Roundq (I : Nat → (Nat → AV) → Heap → Prop) (m : Nat) (Q : Post) : Post
  | .normal, e, H => ∃ m', m' < m ∧ I m' e H
  | .exit id, e, H => Q (.exit id) e H
  | .ret, e, H => Q .ret e H
theorem Roundq.exit {I : Nat → (Nat → AV) → Heap → Prop} {m : Nat} {Q : Post} {e : Nat → AV} {H : Heap} {id : Nat} (h : Q (.exit id) e H) : Roundq I m Q (.exit id) e H := h
theorem Roundq.ret {I : Nat → (Nat → AV) → Heap → Prop} {m : Nat} {Q : Post} {e : Nat → AV} {H : Heap} (h : Q .ret e H) : Roundq I m Q .ret e H := h
theorem Roundq.normal {I : Nat → (Nat → AV) → Heap → Prop} {m : Nat} {Q : Post} {e : Nat → AV} {H : Heap} (m' : Nat) (hm : m' < m) (h : I m' e H) : Roundq I m Q .normal e H := ⟨m', hm, h⟩
theorem Wq.loop {c : Code} {Q : Post} {e : Nat → AV} {H : Heap} (I : Nat → (Nat → AV) → Heap → Prop) (m : Nat) (h0 : I m e H) (hround : ∀ m e H, I m e H → Wq P prims N c e H (Roundq I m Q)) : Wq P prims N (.loop c) e H Q := by
  intro hp hw
  refine Wp.loop (fun m e H => Wf H ∧ I m e H) (fun m e H ⟨w, i⟩ => ?_) (m := m) ⟨hw, h0⟩
  refine ((hround m e H i hp w).rl hp).mono fun x e' H' ⟨r, k⟩ => ?_
  cases x with
  | normal =>
    obtain ⟨m', hm, hi⟩ := k
    exact Round.normal m' hm ⟨r.2 w, hi⟩
  | exit id => exact Round.exit k
  | ret => exact Round.ret k

theorem Wq.region {id : Nat} {ops : Array Oper} {e : Nat → AV} {H : Heap} {Q : Post} (h : Oq P prims N ops ops.toList e H (Q .normal)) : Wq P prims N (.region id ops false) e H Q := fun hp hw => Wp.region (h hp hw)

/-! ## operations -/
theorem runOp_opR {o : Oper} {e : Nat → AV} {H : Heap} {r : AV × Heap} (h : opR P N e o.op H = some r) : runOp P noCall (tab N e) o H = some r := by
  rw [opR_eq] at h
  unfold runOp
  exact h
section
variable {ops : Array Oper} {d : Tmp} {op : Op} {t : TypeId} {pos : String} {after : Array Edge} {os : List Oper} {e : Nat → AV} {H H' : Heap} {K : (Nat → AV) → Heap → Prop} {v : AV}
theorem Oq.nil (h : K e H) : Oq P prims N ops [] e H K := fun _ _ => Ops.nil h
theorem Oq.cons {o : Oper} (hg : wantedA ops (tab N e) o = true) (h : PrimsRl prims → Wf H → OpR P prims N o e H fun v H' => Oq P prims N ops os (setEO e o.dst v) H' K) : Oq P prims N ops (o :: os) e H K := by
  intro hp hw
  have h' := h hp hw
  refine Ops.cons hg ?_
  unfold OpR at h' ⊢
  obtain ⟨n, v, H', hr, k⟩ := h'
  exact ⟨n, v, H', hr, k hp ((runOp_rl (acall_rl hp n) hr).2 hw)⟩
theorem Oq.o1 (hr : opR P N e op H = some (v, H')) (h : Oq P prims N ops os (setE e d v) H' K) : Oq P prims N ops ({ dst := some d, op := op, type := t, pos := pos, after := after, guard := none } :: os) e H K :=
  Oq.cons rfl fun _ _ => OpR.mk (runOp_opR hr) h
theorem Oq.o0 (hr : opR P N e op H = some (v, H')) (h : Oq P prims N ops os e H' K) : Oq P prims N ops ({ dst := none, op := op, type := t, pos := pos, after := after, guard := none } :: os) e H K :=
  Oq.cons rfl fun _ _ => OpR.mk (runOp_opR hr) h
theorem Oq.gop {j : Nat} {want : Bool} {d' : Tmp} (hj : yDst ops j = some d') (hN : d' < N) (hb : e d' = .bool want)
    (hr : opR P N e op H = some (v, H')) (h : Oq P prims N ops os (setE e d v) H' K) : Oq P prims N ops ({ dst := some d, op := op, type := t, pos := pos, after := after, guard := some (j, want) } :: os) e H K :=
  Oq.cons (by rw [wanted_guard rfl hj hN hb]; simp) fun _ _ => OpR.mk (runOp_opR hr) h
theorem Oq.gop0 {j : Nat} {want : Bool} {d' : Tmp} (hj : yDst ops j = some d') (hN : d' < N) (hb : e d' = .bool want)
    (hr : opR P N e op H = some (v, H')) (h : Oq P prims N ops os e H' K) : Oq P prims N ops ({ dst := none, op := op, type := t, pos := pos, after := after, guard := some (j, want) } :: os) e H K :=
  Oq.cons (by rw [wanted_guard rfl hj hN hb]; simp) fun _ _ => OpR.mk (runOp_opR hr) h
theorem Oq.gskip {j : Nat} {want : Bool} {d' : Tmp} (hj : yDst ops j = some d') (hN : d' < N) (hb : e d' = .bool !want)
    (h : Oq P prims N ops os (setE e d .undef) H K) : Oq P prims N ops ({ dst := some d, op := op, type := t, pos := pos, after := after, guard := some (j, want) } :: os) e H K :=
  fun hp hw => Ops.gskip hj hN hb (h hp hw)
theorem Oq.gskip0 {j : Nat} {want : Bool} {d' : Tmp} (hj : yDst ops j = some d') (hN : d' < N) (hb : e d' = .bool !want)
    (h : Oq P prims N ops os e H K) : Oq P prims N ops ({ dst := none, op := op, type := t, pos := pos, after := after, guard := some (j, want) } :: os) e H K :=
  fun hp hw => Ops.gskip0 hj hN hb (h hp hw)
/-- A guard that is not decided: both ways. -/
theorem Oq.gsplit {o : Oper} {j : Nat} {want b : Bool} {d' : Tmp} (ho : o.guard = some (j, want)) (hj : yDst ops j = some d') (hN : d' < N) (hb : e d' = .bool b)
    (h1 : b = true → Oq P prims N ops (o :: os) e H K) (h2 : b = false → Oq P prims N ops (o :: os) e H K) : Oq P prims N ops (o :: os) e H K := by
  cases b
  · exact h2 rfl
  · exact h1 rfl

theorem OpR.mono {o : Oper} {K L : AV → Heap → Prop} (h : OpR P prims N o e H K) (hk : ∀ v H', K v H' → L v H') : OpR P prims N o e H L := by
  unfold OpR at h ⊢
  obtain ⟨n, v, H', hr, k⟩ := h
  exact ⟨n, v, H', hr, hk _ _ k⟩
section
variable {x : Operand} {xs : Array Operand} {ts : Array TypeId} {f : FuncId} {first captured args all : List AV}
theorem Oq.call (hf : ev P (tab N e) x = some (.func (.func f) first captured)) (ha : mapOpt (ev P (tab N e)) xs.toList = some args) (hall : first ++ args ++ captured = all)
    (h : Cl P prims f all H fun v H' => Oq P prims N ops os (setE e d v) H' K) :
    Oq P prims N ops ({ dst := some d, op := .call { callee := .value x, args := xs, argTypes := ts }, type := t, pos := pos, after := after, guard := none } :: os) e H K :=
  Oq.cons rfl fun hp hw => OpR.callv hf ha hall (h hp hw)
theorem Oq.call0 (hf : ev P (tab N e) x = some (.func (.func f) first captured)) (ha : mapOpt (ev P (tab N e)) xs.toList = some args) (hall : first ++ args ++ captured = all)
    (h : Cl P prims f all H fun v H' => Oq P prims N ops os e H' K) :
    Oq P prims N ops ({ dst := none, op := .call { callee := .value x, args := xs, argTypes := ts }, type := t, pos := pos, after := after, guard := none } :: os) e H K :=
  Oq.cons rfl fun hp hw => OpR.callv hf ha hall (h hp hw)
theorem Oq.gcall {j : Nat} {want : Bool} {d' : Tmp} (hj : yDst ops j = some d') (hN : d' < N) (hb : e d' = .bool want)
    (hf : ev P (tab N e) x = some (.func (.func f) first captured)) (ha : mapOpt (ev P (tab N e)) xs.toList = some args) (hall : first ++ args ++ captured = all)
    (h : Cl P prims f all H fun v H' => Oq P prims N ops os (setE e d v) H' K) :
    Oq P prims N ops ({ dst := some d, op := .call { callee := .value x, args := xs, argTypes := ts }, type := t, pos := pos, after := after, guard := some (j, want) } :: os) e H K :=
  Oq.cons (by rw [wanted_guard rfl hj hN hb]; simp) fun hp hw => OpR.callv hf ha hall (h hp hw)
theorem Oq.append {v x : AV} {n m u t1 bytes s : Nat} {z cs new : List AV}
    (ha : mapOpt (ev P (tab N e)) xs.toList = some [v, x]) (ht : ∃ t0, ts[0]? = some t0 ∧ elemF P t0 = some (u, bytes, s, z)) (ht1 : ts[1]? = some t1) (hu1 : (P.underlying t1).isSome = true) (hc : isCount P (some t1) = false)
    (own : OwnSl H u s v n cs) (hx : srcLen x = some m ∧ srcCells H s m x = some new) (hl : new.length = m * s) (hone : new.all AV.one = true) (hb : (n + m) * bytes ≤ 2 ^ 46) (hn : n + m ≤ 2 ^ 46)
    (h : ∀ v' H', OwnSl H' u s v' (n + m) (cs ++ new) → ButOne (slBlock v) H H' → (slBlock v' = slBlock v ∨ slBlock v' = some H.next) → Oq P prims N ops os (setE e d v') H' K) :
    Oq P prims N ops ({ dst := some d, op := .call { callee := .builtin .append, args := xs, argTypes := ts }, type := t, pos := pos, after := after, guard := none } :: os) e H K := by
  intro hp hw
  have : Ops P prims N ops ({ dst := some d, op := .call { callee := .builtin .append, args := xs, argTypes := ts }, type := t, pos := pos, after := after, guard := none } :: os) e H K :=
    Ops.append ha ht ht1 hu1 hc own hx.1 hx.2 hl hone hb hn fun v' H' a b c => h v' H' a b c hp (b.2.1 hw)
  exact this
end
end

/-! ## a body -/
theorem Cl.enter {f : FuncId} {fn : Func} {c : Code} {args : List AV} {H : Heap} {K : AV → Heap → Prop} (hf : P.funcs[f]? = some fn) (hp : prims f = none) (hb : fn.body = some c) (hN : fn.ntmps = N)
    (hl : args.length ≤ N) (h : Wq P prims N c (argEnv args) H (Ret P N fn.results.toList K)) : Cl P prims f args H K :=
  fun hpr hw => CallsA.enter hf hp hb hN hl (h hpr hw)
theorem Cl.prim {f : FuncId} {g : List AV → Heap → Option (AV × Heap)} {args : List AV} {H H' : Heap} {v : AV} {K : AV → Heap → Prop} (hp : prims f = some g) (h : g args H = some (v, H')) (k : K v H') : Cl P prims f args H K :=
  fun _ _ => CallsA.prim hp h k

/-! ## regions that draw their order -/
/-- Operations that look at no block. -/
def blind (P : Program) : Op → Bool
  | .move _ | .assign _ | .pick _ _ _ | .fieldAddr _ _ _ | .nilCheck _ | .extract _ _ | .indexAddr _ _ _ | .field _ _ _ | .makeFunc _ _ _ | .unOp _ _ _ | .slice _ _ _ _ _ | .index _ _ _ | .build _ _ | .box _ _ | .alloc _ | .buildSlice _ _ _ | .makeMap _ _ | .makeSlice _ _ _ => true
  | .binOp _ t _ _ _ => match P.underlying t with | some (.pointer _) => false | _ => true
  | .convert _ t _ => match P.underlying t with | some (.int _) => true | _ => false
  | .call c => match c.callee with
    | .builtin b => match b with
      | .len => match c.argTypes[0]? with
        | some t => match P.underlying t with | some (.slice _) => true | some .string => true | _ => false
        | none => false
      | .min | .max => true
      | _ => false
    | _ => false
  | _ => false
theorem eqSem_blind {P : Program} {t : TypeId} {x y : AV} {neg : Bool} {bs : List Nat} {k : List AObj → Option AV} (ht : ∀ u, P.underlying t ≠ some (.pointer u)) : eqSem P t x y neg ≠ some (.read bs k) := by
  intro h
  unfold eqSem at h
  (repeat' split at h) <;> first | (simp at h; done) | (rename_i hu _ _ _; exact ht _ hu) | (exact ht _ (by assumption))
theorem blind_ok {call : CallFn} {T : List AV} {op : Op} (hb : blind P op = true) {bs : List Nat} {k : List AObj → Option AV} : sem P call T op ≠ some (.read bs k) := by
  intro h
  cases op <;> simp only [blind] at hb
  case binOp op t x y u =>
    have ht : ∀ u, P.underlying t ≠ some (.pointer u) := by
      intro u hu
      simp only [hu] at hb
      cases hb
    simp only [sem] at h
    split at h
    · unfold binSem at h
      (repeat' split at h) <;> first | (exact eqSem_blind ht h) | (simp at h; done)
    · cases h
  case convert s t x =>
    simp only [sem] at h
    split at h
    · unfold convSem at h
      split at hb
      · rename_i hu
        (repeat' split at h) <;> first | (simp at h; done) | (rename_i h1 h2; simp [hu] at h2; done) | (simp_all; done)
      · cases hb
    · cases h
  case call c =>
    simp only [sem, callSem] at h
    split at hb
    · rename_i b hc
      simp only [hc] at h
      split at h
      · cases h
      · unfold builtinSem at h
        split at hb
        · split at h <;> first | (simp at *; done) | skip
          split at hb
          · rename_i t ht
            unfold lenSem at h
            simp only [ht] at h
            split at hb
            · rename_i u hu
              simp only [hu] at h
              (repeat' split at h) <;> simp_all
            · rename_i hu
              simp only [hu] at h
              (repeat' split at h) <;> simp_all
            · cases hb
          · cases hb
        · (repeat' split at h) <;> first | (simp at *; done) | (simp at h; done)
        · (repeat' split at h) <;> first | (simp at *; done) | (simp at h; done)
        · cases hb
    · cases hb
  case buildSlice t n ps =>
    simp only [sem] at h
    split at h
    · unfold buildSliceA at h
      (repeat' split at h) <;> simp at h
    · cases h
  case makeSlice t a b =>
    simp only [sem] at h
    split at h
    · unfold makeSliceSem at h
      (repeat' split at h) <;> simp at h
    · cases h
  all_goals first | (cases hb; done) | skip
  all_goals (simp only [sem] at h; first | (cases h; done) | (simp at h; done) | ((repeat' split at h) <;> simp at h))

/-- In this order, each look at memory comes where all that may write ahead of it must. -/
def calm (P : Program) (ops : Array Oper) : List Nat → Nat → Bool
  | [], _ => true
  | i :: is, k => match ops[i]? with
    | some o => if isHeavy P o.op then calm P ops is (k + 1) else (blind P o.op || decide (k ≤ loOf P ops i)) && calm P ops is k
    | none => false

def pickOps (ops : Array Oper) : List Nat → List Oper
  | [] => []
  | i :: is => match ops[i]? with
    | some o => o :: pickOps ops is
    | none => []

theorem drun_of_ops {ops : Array Oper} {n n0 : Nat} (hp : PrimsRl prims) : ∀ {is : List Nat} {k : Nat} {e e' : Nat → AV} {H H' : Heap} {snaps : List Heap}, calm P ops is k = true → snaps.length = k + 1 → Wf H →
    runOps P (acall P prims n) ops (pickOps ops is) (tab N e) H = some (tab N e', H') →
    ∃ sn, drun P (acall P prims n) ops (befores ops) (heavies P ops.toList 0) n0 is { T := tab N e, H := H, snaps := snaps } = some { T := tab N e', H := H', snaps := sn }
  | [], k, e, e', H, H', snaps, _, _, _, h => by
    simp only [pickOps, runOps, Option.some.injEq, Prod.mk.injEq] at h
    exact ⟨snaps, by simp [drun, h.1, h.2]⟩
  | i :: is, k, e, e', H, H', snaps, hc, hs, hw, h => by
    unfold calm at hc
    cases ho : ops[i]? with
    | none => simp [ho] at hc
    | some o =>
      simp only [ho] at hc
      simp only [pickOps, ho, runOps] at h
      unfold drun dstep
      simp only [ho]
      by_cases hwant : wantedA ops (tab N e) o = true
      · rw [if_pos hwant] at h
        cases hr : runOp P (acall P prims n) (tab N e) o H with
        | none => rw [hr] at h; cases h
        | some r =>
          obtain ⟨v, H1⟩ := r
          rw [hr] at h
          simp only [put_tab] at h
          have hw1 := (runOp_rl (acall_rl hp n) hr).2 hw
          by_cases hh : isHeavy P o.op = true
          · rw [if_pos hh] at hc ⊢
            rw [if_pos hwant]
            simp only [put_tab]
            exact drun_of_ops hp hc (by simp [hs]) hw1 h
          · rw [if_neg hh] at hc ⊢
            have hh' : isHeavy P o.op = false := by simpa using hh
            rw [Bool.and_eq_true, Bool.or_eq_true] at hc
            obtain ⟨hc1, hc2⟩ := hc
            have hr0 : opR P N e o.op H = some (v, H1) := by
              rw [opR_eq]
              unfold runOp at hr
              rcases sem_le (P := P) (noCall_le (acall P prims n)) (tab N e) o.op with h1 | ⟨k1, l, h1, h2, _⟩
              · rw [← h1] at hr; exact hr
              · exact absurd h1 (sem_light hh')
            have hm : snaps.length - loOf P ops i ≤ 1 ∨ ∀ bs k, sem P noCall (tab N e) o.op = some (.read bs k) → ∀ b ∈ bs, Calm H n0 snaps (snaps.length - loOf P ops i) b := by
              rcases hc1 with hb | hb
              · right; intro bs k hsem; exact absurd hsem (blind_ok hb)
              · left; have := of_decide_eq_true hb; omega
            obtain ⟨x, hl, hpush⟩ := light_of_opR (call := acall P prims n) (noCall_le _) hh' hwant hw hr0 hm
            rw [hl]
            simp only [put_tab, hpush]
            exact drun_of_ops hp hc2 hs hw1 h
      · rw [if_neg hwant] at h
        simp only [put_tab] at h
        by_cases hh : isHeavy P o.op = true
        · rw [if_pos hh] at hc ⊢
          rw [if_neg hwant]
          simp only [put_tab]
          exact drun_of_ops hp hc (by simp [hs]) hw h
        · rw [if_neg hh] at hc ⊢
          rw [Bool.and_eq_true] at hc
          unfold lightRes
          rw [if_neg hwant]
          simp only [put_tab, pushO]
          exact drun_of_ops hp hc.2 hs hw h

/-- The order c is the one in which the abstract machine runs the region, and no look could tell another one. -/
def dCalm (P : Program) (ops : Array Oper) (c : List Nat) : Bool := dOk P ops c && calm P ops c 0

theorem Wq.regionD {id : Nat} {ops : Array Oper} {e : Nat → AV} {H : Heap} {Q : Post} (c : List Nat) (hc : dCalm P ops c = true) (h : Oq P prims N ops (pickOps ops c) e H (Q .normal)) : Wq P prims N (.region id ops true) e H Q := by
  intro hp hw
  unfold dCalm at hc
  rw [Bool.and_eq_true] at hc
  refine Wp.regionD c hc.1 ?_
  have h' := h hp hw
  unfold Ops at h'
  obtain ⟨n, e', H', hr, k⟩ := h'
  obtain ⟨sn, hd⟩ := drun_of_ops (n0 := H.next) hp hc.2 (by simp : [H].length = 0 + 1) hw hr
  unfold DW
  exact ⟨n, e', H', sn, hd, k⟩

/-! ## out of this, and into it -/
theorem Cl.callsA {f : FuncId} {args : List AV} {H : Heap} {K : AV → Heap → Prop} (hp : PrimsRl prims) (hw : Wf H) (h : Cl P prims f args H K) : CallsA P prims f args H K := h hp hw
theorem Cl.of {f : FuncId} {args : List AV} {H : Heap} {K : AV → Heap → Prop} (h : CallsA P prims f args H K) : Cl P prims f args H K := fun _ _ => h

end
attribute [irreducible] Cl Wq Oq Thenq Roundq
end Go.Abs

/- Regions that draw their order, where a look at memory may come ahead of a write or behind it: walked step by step, with the memories that there were. -/
namespace Go.Abs
set_option linter.unusedVariables false
set_option linter.unusedSimpArgs false

section
variable {P : Program} {prims : Prims} {N : Nat}

/-- Each step with a mark: no look there could tell (0), or it has to be shown of so many of the last memories. -/
def marksOk (P : Program) (ops : Array Oper) : List (Nat × Nat) → Nat → Bool
  | [], _ => true
  | (i, m) :: is, k => match ops[i]? with
    | some o => if isHeavy P o.op then marksOk P ops is (k + 1) else (blind P o.op || decide (k ≤ loOf P ops i) || (decide (0 < m) && decide (k + 1 - loOf P ops i ≤ m))) && marksOk P ops is k
    | none => false

def Dq (P : Program) (prims : Prims) (N : Nat) (ops : Array Oper) (n0 : Nat) (is : List (Nat × Nat)) (e : Nat → AV) (H : Heap) (snaps : List Heap) (K : (Nat → AV) → Heap → Prop) : Prop :=
  PrimsRl prims → Wf H → ∀ k, snaps.length = k + 1 → marksOk P ops is k = true →
    ∃ n e' H' sn, drun P (acall P prims n) ops (befores ops) (heavies P ops.toList 0) n0 (is.map (·.1)) { T := tab N e, H := H, snaps := snaps } = some { T := tab N e', H := H', snaps := sn } ∧ K e' H'

section
variable {ops : Array Oper} {n0 i : Nat} {m : Nat} {is : List (Nat × Nat)} {e : Nat → AV} {H H' : Heap} {snaps : List Heap} {K : (Nat → AV) → Heap → Prop} {d : Option Tmp} {op : Op} {g : Option (Nat × Bool)} {v : AV}

theorem Dq.nil (h : K e H) : Dq P prims N ops n0 [] e H snaps K := fun _ _ _ _ _ => ⟨0, e, H, snaps, rfl, h⟩

theorem drun_cons {b : Array Nat} {hv : List Nat} {n1 n2 : Nat} {e1 e2 : Nat → AV} {H1 H2 : Heap} {sn1 sn2 : List Heap} {js : List Nat}
    (hs : dstep P (acall P prims n1) ops b hv n0 i { T := tab N e, H := H, snaps := snaps } = some { T := tab N e1, H := H1, snaps := sn1 })
    (hr : drun P (acall P prims n2) ops b hv n0 js { T := tab N e1, H := H1, snaps := sn1 } = some { T := tab N e2, H := H2, snaps := sn2 }) :
    drun P (acall P prims (max n1 n2)) ops b hv n0 (i :: js) { T := tab N e, H := H, snaps := snaps } = some { T := tab N e2, H := H2, snaps := sn2 } := by
  unfold drun
  rw [dstep_le (acall_le (Nat.le_max_left n1 n2)) hs]
  exact drun_le (acall_le (Nat.le_max_right n1 n2)) hr

/-- What a look has to show: its block is as it was in the last memories. -/
def Still (H : Heap) (snaps : List Heap) (m : Nat) (b : Nat) : Prop := ∃ o, H.get b = some o ∧ ∀ S ∈ snaps.take m, S.get b = some o

theorem Dq.light {o : Oper} (h1 : ops[i]? = some o) (hh : isHeavy P o.op = false) (hw : wantedA ops (tab N e) o = true) (hr : opR P N e o.op H = some (v, H'))
    (hm : m = 0 ∨ ∀ bs k, sem P noCall (tab N e) o.op = some (.read bs k) → ∀ b ∈ bs, Still H snaps m b)
    (h : Dq P prims N ops n0 is (setEO e o.dst v) H' snaps K) : Dq P prims N ops n0 ((i, m) :: is) e H snaps K := by
  intro hp hwf k hs hc
  unfold marksOk at hc
  simp only [h1, hh, Bool.false_eq_true, if_false, Bool.and_eq_true, Bool.or_eq_true] at hc
  have hm' : snaps.length - loOf P ops i ≤ 1 ∨ ∀ bs k, sem P noCall (tab N e) o.op = some (.read bs k) → ∀ b ∈ bs, Calm H n0 snaps (snaps.length - loOf P ops i) b := by
    rcases hc.1 with (h2 | h2) | h2
    · right; intro bs k hsem; exact absurd hsem (blind_ok h2)
    · left; have := of_decide_eq_true h2; omega
    · have h21 := of_decide_eq_true h2.1
      have h22 := of_decide_eq_true h2.2
      rcases hm with hm | hm
      · omega
      · right
        intro bs k hsem b hb
        obtain ⟨o', g2, g3⟩ := hm bs k hsem b hb
        refine ⟨o', g2, fun S hS => g3 S ?_⟩
        rw [show m = (snaps.length - loOf P ops i) + (m - (snaps.length - loOf P ops i)) from by omega, List.take_add]
        exact List.mem_append_left _ hS
  obtain ⟨x, hl, hpush⟩ := light_of_opR (call := acall P prims 0) (noCall_le _) hh hw hwf hr hm'
  have hwf' : Wf H' := by
    have := (runOp_rl (call := noCall) (fun f args H v H' h => by cases h) (runOp_opR hr)).2 hwf
    exact this
  obtain ⟨n, e', H2, sn, hd, kk⟩ := h hp hwf' k hs hc.2
  refine ⟨max 0 n, e', H2, sn, drun_cons (n1 := 0) (e1 := setEO e o.dst v) (H1 := H') (sn1 := snaps) ?_ hd, kk⟩
  unfold dstep
  simp only [h1, hh, Bool.false_eq_true, if_false, hl, put_tab, hpush]

theorem Dq.heavyG {o : Oper} (h1 : ops[i]? = some o) (hh : isHeavy P o.op = true) (hw : wantedA ops (tab N e) o = true) (hr : PrimsRl prims → Wf H → OpR P prims N o e H fun v H' => Dq P prims N ops n0 is (setEO e o.dst v) H' (H' :: snaps) K) :
    Dq P prims N ops n0 ((i, m) :: is) e H snaps K := by
  intro hp hwf k hs hc
  unfold marksOk at hc
  simp only [h1, hh, if_true] at hc
  have hr' := hr hp hwf
  unfold OpR at hr'
  obtain ⟨n1, v, H', hr', hk⟩ := hr'
  obtain ⟨n, e', H2, sn, hd, kk⟩ := hk hp ((runOp_rl (acall_rl hp n1) hr').2 hwf) (k + 1) (by simp [hs]) hc
  refine ⟨max n1 n, e', H2, sn, drun_cons (n1 := n1) (e1 := setEO e o.dst v) (H1 := H') (sn1 := H' :: snaps) ?_ hd, kk⟩
  unfold dstep
  simp only [h1, hh, if_true, hw, hr', put_tab]

theorem Dq.skipL {o : Oper} (h1 : ops[i]? = some o) (hh : isHeavy P o.op = false) (hw : wantedA ops (tab N e) o = false) (h : Dq P prims N ops n0 is (setEO e o.dst .undef) H snaps K) : Dq P prims N ops n0 ((i, m) :: is) e H snaps K := by
  intro hp hwf k hs hc
  unfold marksOk at hc
  simp only [h1, hh, Bool.false_eq_true, if_false, Bool.and_eq_true] at hc
  obtain ⟨n, e', H2, sn, hd, kk⟩ := h hp hwf k hs hc.2
  refine ⟨max 0 n, e', H2, sn, drun_cons (n1 := 0) (e1 := setEO e o.dst .undef) (H1 := H) (sn1 := snaps) ?_ hd, kk⟩
  unfold dstep lightRes
  simp only [h1, hh, Bool.false_eq_true, if_false, hw, put_tab, pushO]

theorem Dq.skipH {o : Oper} (h1 : ops[i]? = some o) (hh : isHeavy P o.op = true) (hw : wantedA ops (tab N e) o = false) (h : Dq P prims N ops n0 is (setEO e o.dst .undef) H (H :: snaps) K) : Dq P prims N ops n0 ((i, m) :: is) e H snaps K := by
  intro hp hwf k hs hc
  unfold marksOk at hc
  simp only [h1, hh, if_true] at hc
  obtain ⟨n, e', H2, sn, hd, kk⟩ := h hp hwf (k + 1) (by simp [hs]) hc
  refine ⟨max 0 n, e', H2, sn, drun_cons (n1 := 0) (e1 := setEO e o.dst .undef) (H1 := H) (sn1 := H :: snaps) ?_ hd, kk⟩
  unfold dstep
  simp only [h1, hh, if_true, hw, Bool.false_eq_true, if_false, put_tab]

/-! ## the steps: guards none, met, unmet -/
section
variable {t : TypeId} {pos : String} {after : Array Edge}
theorem Met.w {o : Oper} (h : Met ops e N o.guard) : wantedA ops (tab N e) o = true := h.wanted
theorem met_none : Met ops e N none := trivial
theorem met_some {j : Nat} {want : Bool} {d' : Tmp} (hj : yDst ops j = some d') (hN : d' < N) (hb : e d' = .bool want) : Met ops e N (some (j, want)) := ⟨d', hj, hN, hb⟩
theorem unmet_some {j : Nat} {want : Bool} {d' : Tmp} (hj : yDst ops j = some d') (hN : d' < N) (hb : e d' = .bool !want) : Unmet ops e N (some (j, want)) := ⟨d', hj, hN, hb⟩

/-- A light step that is marked. -/
theorem Dq.o1 {d : Tmp} (ho : ops[i]? = some ⟨some d, op, t, pos, after, g⟩) (hh : isHeavy P op = false) (hg : Met ops e N g) (hr : opR P N e op H = some (v, H'))
    (h : Dq P prims N ops n0 is (setE e d v) H' snaps K) : Dq P prims N ops n0 ((i, 0) :: is) e H snaps K :=
  Dq.light ho hh (Met.w (o := ⟨some d, op, t, pos, after, g⟩) hg) hr (.inl rfl) h
/-- A load that is not. -/
theorem Dq.load {d : Tmp} {u : TypeId} {x : Operand} {b o : Nat} (ho : ops[i]? = some ⟨some d, .load u x, t, pos, after, g⟩) (hg : Met ops e N g) (hx : ev P (tab N e) x = some (.ptr (some (b, o)))) (hs : Still H snaps (m + 1) b) (hr : opR P N e (.load u x) H = some (v, H'))
    (h : Dq P prims N ops n0 is (setE e d v) H' snaps K) : Dq P prims N ops n0 ((i, m + 1) :: is) e H snaps K := by
  refine Dq.light ho rfl (Met.w (o := ⟨some d, .load u x, t, pos, after, g⟩) hg) hr (.inr fun bs k hsem => ?_) h
  simp only [sem, hx] at hsem
  split at hsem
  · rename_i e1 _ _
    simp only [Option.some.injEq, AV.ptr.injEq, Prod.mk.injEq] at e1
    simp only [Option.some.injEq, Sm.read.injEq] at hsem
    intro b' hb'
    rw [← hsem.1] at hb'
    simp at hb'
    subst hb'
    rw [← e1.1]; exact hs
  · cases hsem
/-- A text out of bytes, not marked. -/
theorem Dq.conv {d : Tmp} {s u : TypeId} {x : Operand} {a : Option (Nat × Nat)} {n c : Nat} {ex : Option Nat} (ho : ops[i]? = some ⟨some d, .convert s u x, t, pos, after, g⟩) (hh : isHeavy P (.convert s u x) = false) (hg : Met ops e N g) (hx : ev P (tab N e) x = some (.slice a n c ex)) (hs : ∀ b o, a = some (b, o) → Still H snaps (m + 1) b)
    (hr : opR P N e (.convert s u x) H = some (v, H'))
    (h : Dq P prims N ops n0 is (setE e d v) H' snaps K) : Dq P prims N ops n0 ((i, m + 1) :: is) e H snaps K := by
  refine Dq.light ho hh (Met.w (o := ⟨some d, .convert s u x, t, pos, after, g⟩) hg) hr (.inr fun bs k hsem => ?_) h
  simp only [sem, hx, convSem] at hsem
  intro b' hb'
  split at hsem <;> first | (cases hsem; done) | skip
  all_goals (try (rename_i h3 h4; simp at h4))
  all_goals (try (split at hsem <;> first | (cases hsem; done) | (simp at hsem; done) | skip))
  all_goals (try (split at hsem <;> first | (cases hsem; done) | (simp at hsem; done) | skip))
  all_goals (
    simp only [Option.some.injEq, Sm.read.injEq] at hsem
    rw [← hsem.1] at hb'
    simp at hb'
    subst hb'
    first | exact hs _ _ (by assumption) | exact hs _ _ h4.1)
/-- A write. -/
theorem Dq.h1 {d : Tmp} (ho : ops[i]? = some ⟨some d, op, t, pos, after, g⟩) (hh : isHeavy P op = true) (hg : Met ops e N g) (hr : opR P N e op H = some (v, H'))
    (h : Dq P prims N ops n0 is (setE e d v) H' (H' :: snaps) K) : Dq P prims N ops n0 ((i, m) :: is) e H snaps K :=
  Dq.heavyG ho hh (Met.w (o := ⟨some d, op, t, pos, after, g⟩) hg) fun _ _ => OpR.mk (runOp_opR hr) h
theorem Dq.h0 (ho : ops[i]? = some ⟨none, op, t, pos, after, g⟩) (hh : isHeavy P op = true) (hg : Met ops e N g) (hr : opR P N e op H = some (v, H'))
    (h : Dq P prims N ops n0 is e H' (H' :: snaps) K) : Dq P prims N ops n0 ((i, m) :: is) e H snaps K :=
  Dq.heavyG ho hh (Met.w (o := ⟨none, op, t, pos, after, g⟩) hg) fun _ _ => OpR.mk (runOp_opR hr) h
theorem Dq.call {d : Tmp} {x : Operand} {xs : Array Operand} {ts : Array TypeId} {f : FuncId} {first captured args all : List AV}
    (ho : ops[i]? = some ⟨some d, .call { callee := .value x, args := xs, argTypes := ts }, t, pos, after, g⟩) (hg : Met ops e N g)
    (hf : ev P (tab N e) x = some (.func (.func f) first captured)) (ha : mapOpt (ev P (tab N e)) xs.toList = some args) (hall : first ++ args ++ captured = all)
    (h : Cl P prims f all H fun v H' => Dq P prims N ops n0 is (setE e d v) H' (H' :: snaps) K) : Dq P prims N ops n0 ((i, m) :: is) e H snaps K :=
  Dq.heavyG ho rfl (Met.w (o := ⟨some d, .call { callee := .value x, args := xs, argTypes := ts }, t, pos, after, g⟩) hg) fun hp hw => OpR.callv hf ha hall (by unfold Cl at h; exact h hp hw)
theorem Dq.append {d : Tmp} {xs : Array Operand} {ts : Array TypeId} {w x : AV} {n q u t1 bytes s : Nat} {z cs new : List AV}
    (ho : ops[i]? = some ⟨some d, .call { callee := .builtin .append, args := xs, argTypes := ts }, t, pos, after, g⟩) (hg : Met ops e N g)
    (ha : mapOpt (ev P (tab N e)) xs.toList = some [w, x]) (ht : ∃ t0, ts[0]? = some t0 ∧ elemF P t0 = some (u, bytes, s, z)) (ht1 : ts[1]? = some t1) (hu1 : (P.underlying t1).isSome = true) (hc : isCount P (some t1) = false)
    (own : OwnSl H u s w n cs) (hx : srcLen x = some q ∧ srcCells H s q x = some new) (hl : new.length = q * s) (hone : new.all AV.one = true) (hb : (n + q) * bytes ≤ 2 ^ 46) (hn : n + q ≤ 2 ^ 46)
    (h : ∀ v' H', OwnSl H' u s v' (n + q) (cs ++ new) → ButOne (slBlock w) H H' → (slBlock v' = slBlock w ∨ slBlock v' = some H.next) → Dq P prims N ops n0 is (setE e d v') H' (H' :: snaps) K) :
    Dq P prims N ops n0 ((i, m) :: is) e H snaps K := by
  refine Dq.heavyG ho rfl (Met.w (o := ⟨some d, .call { callee := .builtin .append, args := xs, argTypes := ts }, t, pos, after, g⟩) hg) fun hp hw => ?_
  obtain ⟨t0, h0, hF⟩ := ht
  obtain ⟨base, ex, rfl⟩ : ∃ base ex, w = .slice base n n ex := by
    rcases own with ⟨rfl, rfl, _⟩ | ⟨b, sl, rfl, _⟩
    · exact ⟨none, none, rfl⟩
    · exact ⟨_, _, rfl⟩
  unfold elemF at hF
  split at hF
  · rename_i u' hu
    split at hF
    · rename_i b' s' z' g1 g2 g3
      split at hF
      · rename_i hz
        injection hF with hF
        simp only [Prod.mk.injEq] at hF
        obtain ⟨rfl, rfl, rfl, rfl⟩ := hF
        obtain ⟨d1, hd1⟩ := Option.isSome_iff_exists.1 hu1
        obtain ⟨v', H', r, o, bo, hbk⟩ := appendA_own own hl hone hb hn
        refine OpR.mk (v := v') (H' := H') (runOp_opR ?_) (h v' H' o bo hbk)
        rw [opR_builtin, ha, append_eq h0 hu g2 g1 g3 hz (by rw [ht1]; exact hc) ht1 hd1 hx.1 hx.2 hl]
        exact r
      · cases hF
    · cases hF
  · cases hF
/-- A step whose guard is unmet. -/
theorem Dq.sl {d : Tmp} (ho : ops[i]? = some ⟨some d, op, t, pos, after, g⟩) (hh : isHeavy P op = false) (hg : Unmet ops e N g) (h : Dq P prims N ops n0 is (setE e d .undef) H snaps K) : Dq P prims N ops n0 ((i, m) :: is) e H snaps K :=
  Dq.skipL ho hh (Unmet.unwanted (o := ⟨some d, op, t, pos, after, g⟩) hg) h
theorem Dq.sh {d : Tmp} (ho : ops[i]? = some ⟨some d, op, t, pos, after, g⟩) (hh : isHeavy P op = true) (hg : Unmet ops e N g) (h : Dq P prims N ops n0 is (setE e d .undef) H (H :: snaps) K) : Dq P prims N ops n0 ((i, m) :: is) e H snaps K :=
  Dq.skipH ho hh (Unmet.unwanted (o := ⟨some d, op, t, pos, after, g⟩) hg) h
theorem Dq.sh0 (ho : ops[i]? = some ⟨none, op, t, pos, after, g⟩) (hh : isHeavy P op = true) (hg : Unmet ops e N g) (h : Dq P prims N ops n0 is e H (H :: snaps) K) : Dq P prims N ops n0 ((i, m) :: is) e H snaps K :=
  Dq.skipH ho hh (Unmet.unwanted (o := ⟨none, op, t, pos, after, g⟩) hg) h
end
end

/-- The order is the one in which it is run; the marks are right. -/
def dMarks (P : Program) (ops : Array Oper) (c : List (Nat × Nat)) : Bool := dOk P ops (c.map (·.1)) && marksOk P ops c 0
theorem Wq.regionM {id : Nat} {ops : Array Oper} {e : Nat → AV} {H : Heap} {Q : Post} (c : List (Nat × Nat)) (hc : dMarks P ops c = true) (h : Dq P prims N ops H.next c e H [H] (Q .normal)) : Wq P prims N (.region id ops true) e H Q := by
  unfold Wq
  intro hp hw
  unfold dMarks at hc
  rw [Bool.and_eq_true] at hc
  refine Wp.regionD (c.map (·.1)) hc.1 ?_
  obtain ⟨n, e', H', sn, hr, k⟩ := h hp hw 0 rfl hc.2
  unfold DW
  exact ⟨n, e', H', sn, hr, k⟩
end
attribute [irreducible] Dq
end Go.Abs

/- The rules by which a walk rewrites, marked. -/
namespace Go.Abs
theorem argEnv_zero (a : AV) (l : List AV) : argEnv (a :: l) 0 = a := rfl
theorem argEnv_succ (a : AV) (l : List AV) (n : Nat) : argEnv (a :: l) (n + 1) = argEnv l n := rfl
theorem argEnv_nil (n : Nat) : argEnv [] n = .undef := rfl
attribute [simp] argEnv_zero argEnv_succ argEnv_nil ev_tmp' ev_const ev_func evOpt_none evOpt_some ofConst ofBasic setE_eq resultsA tab_at opR_move opR_assign mvR_some opR_pick pickR_eq opR_bin binR_add binR_sub binR_mul binR_quo' binR_rem' binR_and binR_or binR_xor binR_andNot binR_eql binR_neq binR_lss binR_leq binR_gtr binR_geq
  binR_streql binR_strneq binR_strlss binR_strgtr binR_stradd' binR_beql' binR_bneq' binR_ptrn binR_ptrnn binR_sln binR_slnn binR_shl' binR_shr unR_neg unR_xor
  opR_un unR_not opR_extract extractR_eq opR_nilCheck nilCheckR_eq opR_fieldAddr fieldAddrR_eq opR_load loadR_ptr opR_store storeR_ptr opR_box boxR_some opR_build buildR_eq opR_buildSlice buildSliceR_eq
  opR_indexAddr indexAddrR_slice indexAddrR_array opR_builtin len_slice' len_str' len_mapnil' len_map' len_arr min_two' max_two' mapOpt evParts firstT buildA buildSliceA fillA fieldPlaces zeros AV.cells writeAt Sm.run readVar writeCells Heap.get_push Heap.get_set AV.one
  opR_conv convR_int convR_str convR_bytes convR_bytesnil cellsOfBytes_len zeroB_len opR_slice slcS_l slcS_h slcS_lh slcA_l slcA_h slcA_lh slcA_0 opR_index indexR_str indexR_arr opR_field fieldR_agg partA_eq
  opR_makeMap opR_makeSlice opR_makeFunc makeFuncR_some opR_lookup lookupR_int lookI_one lookI_two opR_mapUpdate updateR_int updI_eq deleteR_int imap_len copyR_eq iget_pm idel_pm pm_len ptrTo_getD srcLen bnd
theorem ptrTo_eq (b : Nat) : ptrTo b = .ptr (some (b, 0)) := rfl
theorem iset_ptr (n : Int) (b : Nat) (l : List (Int × Nat)) : iset n (.ptr (some (b, 0))) (pm ptrTo l) = pm ptrTo (iset n b l) := iset_pm ptrTo n b l
attribute [simp] List.getElem?_cons_zero List.getElem?_cons_succ List.getD_cons_zero List.getD_cons_succ
attribute [simp] ptrTo_eq iset_ptr
/-- An allocation of a type whose zero is known. -/
theorem opR_alloc' {P : Program} {N : Nat} {e : Nat → AV} {H : Heap} (t : TypeId) : opR P N e (.alloc t) H = match tzero P t with | some z => some (.ptr (some (H.next, 0)), H.push (.cells z.cells t true false)) | none => none := by
  cases h : tzero P t with
  | none => simp only [opR_eq, sem, h]; rfl
  | some z => exact opR_alloc t h
attribute [simp] opR_alloc'
end Go.Abs

/- The walking kit, fifth part: whole blocks written, pieces copied and cleared. -/
namespace Go.Abs
set_option linter.unusedVariables false
set_option linter.unusedSimpArgs false

theorem writeAt_eq : ∀ (vs c : List AV) (o : Nat), o + vs.length ≤ c.length → writeAt c o vs = c.take o ++ (vs ++ c.drop (o + vs.length))
  | [], c, o, h => by simp [writeAt]
  | v :: vs, c, o, h => by
    simp only [List.length_cons] at h
    simp only [writeAt]
    rw [writeAt_eq vs (c.set o v) (o + 1) (by simp; omega)]
    rw [List.take_set, List.drop_set]
    rw [if_pos (by omega)]
    have e1 : (c.take (o + 1)).set o v = c.take o ++ [v] := by
      rw [List.take_add_one]
      rw [List.getElem?_eq_getElem (by omega)]
      rw [List.set_append_right _ _ (by simp; omega)]
      simp [Nat.min_eq_left (by omega : o ≤ c.length)]
    rw [e1]
    simp [Nat.add_comm, Nat.add_left_comm]
theorem writeAt_full {vs c : List AV} (h : c.length = vs.length) : writeAt c 0 vs = vs := by
  rw [writeAt_eq vs c 0 (by omega)]
  simp [List.drop_eq_nil_of_le (by omega : c.length ≤ vs.length)]
theorem writeCells_eq {H : Heap} {b o : Nat} {vs c : List AV} {u : TypeId} {mk : Bool} (hb : H.get b = some (.cells c u true mk)) (h : o + vs.length ≤ c.length) (h0 : 0 < vs.length) (hone : vs.all AV.one = true) :
    writeCells H b o vs = some (H.set b (.cells (c.take o ++ (vs ++ c.drop (o + vs.length))) u true mk)) := by
  cases vs with
  | nil => simp at h0
  | cons v vs =>
    simp only [writeCells, hb]
    rw [if_pos (by rw [Bool.and_eq_true]; exact ⟨by simpa using h, hone⟩), writeAt_eq _ _ _ h]
theorem Upd.get {H H' : Heap} (h : Upd nobody H H') {b : Nat} (hb : b < H.next) : H'.get b = H.get b := h.keep b hb id
theorem Sl.src' {H : Heap} {s n : Nat} {v : AV} {cs : List AV} (h : Sl H s v n cs) : srcLen v = some n ∧ srcCells H s n v = some cs := ⟨h.src.2, h.src.1⟩
theorem getD_appL {α : Type} {l m : List α} {i : Nat} {d : α} (h : i < l.length) : (l ++ m).getD i d = l.getD i d := by simp [List.getD, List.getElem?_append_left h]
theorem getD_appR {α : Type} {l m : List α} {i : Nat} {d : α} (h : l.length ≤ i) : (l ++ m).getD i d = m.getD (i - l.length) d := by simp [List.getD, List.getElem?_append_right h]
theorem writeCells_nil {H : Heap} {b o : Nat} : writeCells H b o [] = some H := rfl

section
variable {P : Program} {prims : Prims} {N : Nat} {ops : Array Oper} {d : Tmp} {t t0 : TypeId} {pos : String} {after : Array Edge} {os : List Oper} {e : Nat → AV} {H H' : Heap} {K : (Nat → AV) → Heap → Prop} {v : AV}
/-- The memory forgotten but for what is said of it. -/
theorem Wq.gen {c : Code} {Q : Post} (I : Heap → Prop) (h : I H) (k : ∀ H, I H → Wq P prims N c e H Q) : Wq P prims N c e H Q := k H h
theorem Oq.gen (I : Heap → Prop) (h : I H) (k : ∀ H, I H → Oq P prims N ops os e H K) : Oq P prims N ops os e H K := k H h
/-- A whole block written. -/
theorem Oq.storeFull {x y : Operand} {b : Nat} {vs c : List AV} {el : TypeId} {mk : Bool} (hx : ev P (tab N e) x = some (.ptr (some (b, 0)))) (hy : ev P (tab N e) y = some (.agg vs)) (hb : H.get b = some (.cells c el true mk)) (hl : c.length = vs.length) (h0 : 0 < vs.length) (hone : vs.all AV.one = true)
    (ht : tsz P t0 = some vs.length) (h : Oq P prims N ops os e (H.set b (.cells vs el true mk)) K) : Oq P prims N ops ({ dst := none, op := .store t0 x y, type := t, pos := pos, after := after, guard := none } :: os) e H K := by
  refine Oq.o0 (v := .undef) (H' := H.set b (.cells vs el true mk)) ?_ h
  rw [opR_store, hx, hy, storeR_ptr]
  simp only [AV.cells, ht, if_true]
  rw [writeCells_eq hb (by omega) h0 hone]
  simp [List.drop_eq_nil_of_le (by omega : c.length ≤ vs.length)]
/-- A copy between blocks of bytes (elements of one cell). -/
theorem Oq.copy {xs : Array Operand} {ts : Array TypeId} {b o dl c : Nat} {ex : Option Nat} {b2 o2 ml c2 : Nat} {ex2 : Option Nat} {cd cs : List AV} {u u2 : TypeId} {mk w2 m2 : Bool} {t1 : TypeId} (k : Nat)
    (ha : mapOpt (ev P (tab N e)) xs.toList = some [.slice (some (b, o)) dl c ex, .slice (some (b2, o2)) ml c2 ex2]) (ht : ts[0]? = some t1) (hs : elemS P t1 = some 1) (hk : min ml dl = k) (h0 : 0 < k)
    (hb : H.get b = some (.cells cd u true mk)) (hb2 : H.get b2 = some (.cells cs u2 w2 m2)) (h1 : o + k ≤ cd.length) (h2 : o2 + k ≤ cs.length) (hone : ((cs.drop o2).take k).all AV.one = true)
    (h : Oq P prims N ops os (setE e d (.int .i64 k)) (H.set b (.cells (cd.take o ++ ((cs.drop o2).take k ++ cd.drop (o + k))) u true mk)) K) :
    Oq P prims N ops ({ dst := some d, op := .call { callee := .builtin .copy, args := xs, argTypes := ts }, type := t, pos := pos, after := after, guard := none } :: os) e H K := by
  refine Oq.o1 (H' := H.set b (.cells (cd.take o ++ ((cs.drop o2).take k ++ cd.drop (o + k))) u true mk)) ?_ h
  rw [opR_builtin, ha, copyR_eq]
  have hk' : Nat.min ml dl = k := hk
  have hl : ((cs.drop o2).take k).length = k := by simp; omega
  simp only [ht, hs, srcLen, hk']
  have hsrc : srcCells H 1 k (.slice (some (b2, o2)) ml c2 ex2) = some ((cs.drop o2).take k) := by
    simp only [srcCells, Nat.mul_one, cellsAt, hb2]
    rw [if_neg (by omega), if_pos (by have := Nat.min_le_left ml dl; omega), if_pos h2]
  simp only [hsrc, hl, Nat.mul_one, ne_eq, not_true, if_false]
  rw [writeCells_eq hb (by rw [hl]; exact h1) (by rw [hl]; exact h0) hone, hl]
theorem zeros_one (v : AV) : ∀ n, zeros [v] n = List.replicate n v
  | 0 => rfl
  | n + 1 => by simp [zeros, zeros_one v n, List.replicate_succ]
theorem zeros_bytes (n : Nat) : zeros [.int .u8 0] n = cellsOfBytes (zeroB n) := by
  rw [zeros_one]
  simp [cellsOfBytes, zeroB]
/-- A piece of a block cleared (elements of one cell). -/
theorem Oq.clear {xs : Array Operand} {ts : Array TypeId} {b o k c : Nat} {ex : Option Nat} {cd : List AV} {u u1 : TypeId} {mk : Bool} {bytes : Nat} {z : AV}
    (ha : mapOpt (ev P (tab N e)) xs.toList = some [.slice (some (b, o)) k c ex]) (ht : ∃ t1, ts[0]? = some t1 ∧ elemF P t1 = some (u1, bytes, 1, [z])) (h0 : 0 < k)
    (hb : H.get b = some (.cells cd u true mk)) (h1 : o + k ≤ cd.length) (hone : z.one = true)
    (h : Oq P prims N ops os e (H.set b (.cells (cd.take o ++ (List.replicate k z ++ cd.drop (o + k))) u true mk)) K) :
    Oq P prims N ops ({ dst := none, op := .call { callee := .builtin .clear, args := xs, argTypes := ts }, type := t, pos := pos, after := after, guard := none } :: os) e H K := by
  obtain ⟨t1, ht, hF⟩ := ht
  refine Oq.o0 (v := .undef) (H' := H.set b (.cells (cd.take o ++ (List.replicate k z ++ cd.drop (o + k))) u true mk)) ?_ h
  rw [opR_builtin, ha, builtinR_eq]
  unfold elemF at hF
  split at hF
  · rename_i u' hu
    split at hF
    · rename_i b' s' z' g1 g2 g3
      split at hF
      · rename_i hz
        injection hF with hF
        simp only [Prod.mk.injEq] at hF
        obtain ⟨rfl, rfl, rfl, hzz⟩ := hF
        simp only [builtinSem, clearSem, ht, hu]
        rw [if_neg (by omega)]
        have hw := writeCells_eq (o := o) (vs := List.replicate k z) hb (by simpa using h1) (by simpa using h0) (by rw [List.all_eq_true]; intro x hx; rw [(List.mem_replicate.1 hx).2]; exact hone)
        simp only [List.length_replicate] at hw
        simp only [g2, g3, hzz, zeros_one, List.length_singleton, ne_eq, not_true, if_false, hw, Sm.run]
      · cases hF
    · cases hF
  · cases hF
end
end Go.Abs

/- Arguments that come in, told as slices and lists. -/
namespace Go.Abs
set_option linter.unusedVariables false

/-- A text out of a slice of bytes. -/
theorem conv_sl {P : Program} {H : Heap} {s t : TypeId} {v : AV} {bs : List UInt8} (h1 : bytesT P s = true) (h2 : isStrT P t = true) (h : Sl H 1 v bs.length (cellsOfBytes bs)) (hv : ∀ b o n c x, v = .slice (some (b, o)) n c x → b < H.next ∧ ∃ cs t w m, H.get b = some (.cells cs t w m) ∧ o + n ≤ cs.length) : convR P s t (some v) H = some (.str bs, H) := by
  unfold Sl at h
  obtain ⟨hl, h⟩ := h
  rcases h with ⟨rfl, h0⟩ | ⟨b, o, cap, ex, rfl, hc, hx, h⟩
  · rw [convR_bytesnil]
    simp only [h1, h2, Bool.and_self, if_true]
    have : bs = [] := List.eq_nil_of_length_eq_zero h0
    rw [this]
  · rw [convR_bytes]
    simp only [h1, h2, Bool.and_self, if_true]
    by_cases h0 : 0 < bs.length
    · obtain ⟨_, c, t', w, m, q2, q3, q4⟩ := h h0
      rw [Nat.mul_one] at q3 q4
      simp only [q2]
      rw [if_pos q3, q4, bytesOfCells_of]
    · obtain ⟨_, c, t', w, m, q2, q3⟩ := hv b o _ cap ex rfl
      have h00 : bs.length = 0 := by omega
      have hbs : bs = [] := List.eq_nil_of_length_eq_zero h00
      subst hbs
      simp only [q2]
      rw [if_pos q3]
      simp [bytesOfCells]
theorem list_of {α : Type} {p : Nat → α → Prop} : ∀ {n : Nat}, (∀ i, i < n → ∃ x, p i x) → ∃ l : List α, l.length = n ∧ ∀ i x, l[i]? = some x → p i x
  | 0, _ => ⟨[], rfl, fun i x h => by simp at h⟩
  | n + 1, h => by
    obtain ⟨l, hl, hp⟩ := list_of (n := n) fun i hi => h i (by omega)
    obtain ⟨x, hx⟩ := h n (by omega)
    refine ⟨l ++ [x], by simp [hl], fun i y hy => ?_⟩
    by_cases hi : i < l.length
    · rw [List.getElem?_append_left hi] at hy; exact hp i y hy
    · rw [List.getElem?_append_right (by omega)] at hy
      have : i - l.length = 0 := by
        by_cases e : i - l.length = 0
        · exact e
        · rw [List.getElem?_eq_none (by simp; omega)] at hy; cases hy
      rw [this] at hy
      simp at hy
      subst hy
      rw [show i = n from by omega]
      exact hx

theorem pic_slice {P : Program} {H : Heap} {n : Nat} {t e s : Nat} {v : AV} (hu : P.underlying t = some (.slice e)) (hs : P.cellsOf e = s) (h : Pic P H (n + 1) t [v]) :
    ∃ len c, Sl H s v len c ∧ len ≤ maxLen ∧ (∀ b, slBlock v = some b → b < H.next) ∧ ∀ i, i < len → Pic P H n e ((c.drop (i * s)).take s) := by
  unfold Pic at h
  simp only [hu, hs] at h
  rcases h with h | ⟨b, len, c, h1, h2, h3, h4, h5, h6⟩
  · simp at h
    subst h
    exact ⟨0, [], Sl.nil, by unfold maxLen; omega, by simp [slBlock], fun i hi => by omega⟩
  · simp at h1
    subst h1
    refine ⟨len, c, ?_, h3, by simp [slBlock]; omega, h6⟩
    unfold Sl
    exact ⟨h4, .inr ⟨b, 0, len, some s, rfl, Nat.le_refl _, .inr rfl, fun h0 => ⟨h2, c, e, false, false, h5 h0, by omega, by rw [List.drop_zero, List.take_of_length_le (by omega)]⟩⟩⟩

theorem pic_int {P : Program} {H : Heap} {n t : Nat} {k : IntKind} {cs : List AV} (hu : P.underlying t = some (.int k)) (h : Pic P H (n + 1) t cs) : ∃ z, cs = [.int k z] ∧ (Lit.int k z).wf = true := by
  unfold Pic at h
  simpa only [hu] using h
theorem pic_bool {P : Program} {H : Heap} {n t : Nat} {cs : List AV} (hu : P.underlying t = some .bool) (h : Pic P H (n + 1) t cs) : ∃ z, cs = [.bool z] := by
  unfold Pic at h
  simpa only [hu] using h
theorem pic_str {P : Program} {H : Heap} {n t : Nat} {cs : List AV} (hu : P.underlying t = some .string) (h : Pic P H (n + 1) t cs) : ∃ z, cs = [.str z] ∧ z.length ≤ maxLen := by
  unfold Pic at h
  simpa only [hu] using h
theorem i64_wf {z : Int} (h : (Lit.int .i64 z).wf = true) : -9223372036854775808 ≤ z ∧ z ≤ 9223372036854775807 := by
  simp [Lit.wf, IntKind.min, IntKind.max, IntKind.signed, IntKind.bits] at h
  omega
theorem u8_wf {z : Int} (h : (Lit.int .u8 z).wf = true) : 0 ≤ z ∧ z ≤ 255 := by
  simp [Lit.wf, IntKind.min, IntKind.max, IntKind.signed, IntKind.bits] at h
  omega

theorem cells_of_u8 : ∀ (n : Nat) (c : List AV), c.length = n → (∀ i, i < n → ∃ z, (c.drop i).take 1 = [.int .u8 z] ∧ 0 ≤ z ∧ z ≤ 255) → ∃ bs, bs.length = n ∧ c = cellsOfBytes bs
  | 0, c, hl, _ => ⟨[], rfl, by rw [List.eq_nil_of_length_eq_zero hl]; rfl⟩
  | n + 1, c, hl, h => by
    cases c with
    | nil => simp at hl
    | cons x c =>
      obtain ⟨bs, h1, h2⟩ := cells_of_u8 n c (by simpa using hl) fun i hi => by
        have := h (i + 1) (by omega)
        simpa using this
      obtain ⟨z, hz, h3, h4⟩ := h 0 (by omega)
      simp at hz
      refine ⟨UInt8.ofNat z.toNat :: bs, by simp [h1], ?_⟩
      have e : cellsOfBytes (UInt8.ofNat z.toNat :: bs) = .int .u8 (UInt8.ofNat z.toNat).toNat :: cellsOfBytes bs := rfl
      rw [e, hz, h2]
      congr 2
      have : (UInt8.ofNat z.toNat).toNat = z.toNat := by rw [UInt8.toNat_ofNat']; exact Nat.mod_eq_of_lt (by omega)
      rw [this]
      omega

theorem pic_bytes {P : Program} {H : Heap} {n t e : Nat} {v : AV} (hu : P.underlying t = some (.slice e)) (hs : P.cellsOf e = 1) (he : P.underlying e = some (.int .u8)) (h : Pic P H (n + 2) t [v]) :
    ∃ bs, Sl H 1 v bs.length (cellsOfBytes bs) ∧ bs.length ≤ maxLen ∧ (∀ b, slBlock v = some b → b < H.next) := by
  obtain ⟨len, c, h1, h2, h3, h4⟩ := pic_slice hu hs h
  obtain ⟨bs, h5, h6⟩ := cells_of_u8 len c (by have := h1.len; omega) fun i hi => by
    have := h4 i hi
    rw [Nat.mul_one] at this
    obtain ⟨z, hz, hw⟩ := pic_int he this
    exact ⟨z, hz, u8_wf hw⟩
  exact ⟨bs, by rw [h5, ← h6]; exact h1, by omega, h3⟩
end Go.Abs

/- What every row of a law wants, whatever the seat. -/
namespace Go.Abs
set_option linter.unusedVariables false

theorem closedPrims_rl (l : List (FuncId × AV)) : PrimsRl (closedPrims l) := by
  intro f g hf args H v H' hg
  unfold closedPrims at hf
  split at hf
  · injection hf with hf
    subst hf
    simp only [] at hg
    split at hg
    · injection hg with hg; injection hg with _ hg; subst hg; exact Rl.refl _
    · cases hg
  · cases hf

/-- Are they alike (plain values only). -/
def sameAV : AV → AV → Bool
  | .bool a, .bool b => a == b
  | .int k a, .int l b => decide (k = l) && a == b
  | .str a, .str b => a == b
  | _, _ => false
theorem sameAV_ok {a b : AV} (h : sameAV a b = true) : a = b := by
  cases a <;> cases b <;> simp [sameAV] at h <;> simp [h]
theorem runs_of {P : Program} {n f : Nat} {H : Heap} {v : AV} (h : ((acall P noPrims n f [] H).map fun r => sameAV r.1 v) = some true) : ∃ n H', acall P noPrims n f [] H = some (v, H') := by
  cases hr : acall P noPrims n f [] H with
  | none => rw [hr] at h; simp at h
  | some r =>
    rw [hr] at h
    obtain ⟨u, H'⟩ := r
    simp at h
    rw [sameAV_ok h] at hr
    exact ⟨n, H', hr⟩

theorem picV_one {P : Program} {H : Heap} {n t : Nat} {a : AV} {k : IntKind} (hu : P.underlying t = some (.int k)) (h : PicV P H (n + 1) t a) : ∃ z, a = .int k z ∧ (Lit.int k z).wf = true := by
  unfold PicV at h
  simp only [hu] at h
  obtain ⟨z, e, w⟩ := pic_int hu h
  simp at e
  exact ⟨z, e, w⟩
theorem picV_i64 {P : Program} {H : Heap} {n t : Nat} {a : AV} (hu : P.underlying t = some (.int .i64)) (h : PicV P H (n + 1) t a) : ∃ z, a = .int .i64 z ∧ -9223372036854775808 ≤ z ∧ z ≤ 9223372036854775807 := by
  obtain ⟨z, e, w⟩ := picV_one hu h
  exact ⟨z, e, i64_wf w⟩
theorem picV_u8 {P : Program} {H : Heap} {n t : Nat} {a : AV} (hu : P.underlying t = some (.int .u8)) (h : PicV P H (n + 1) t a) : ∃ z, a = .int .u8 z ∧ 0 ≤ z ∧ z ≤ 255 := by
  obtain ⟨z, e, w⟩ := picV_one hu h
  exact ⟨z, e, u8_wf w⟩
theorem picV_bool {P : Program} {H : Heap} {n t : Nat} {a : AV} (hu : P.underlying t = some .bool) (h : PicV P H (n + 1) t a) : ∃ z, a = .bool z := by
  unfold PicV at h
  simp only [hu] at h
  obtain ⟨z, e⟩ := pic_bool hu h
  simp at e
  exact ⟨z, e⟩
theorem picV_str {P : Program} {H : Heap} {n t : Nat} {a : AV} (hu : P.underlying t = some .string) (h : PicV P H (n + 1) t a) : ∃ z, a = .str z ∧ z.length ≤ maxLen := by
  unfold PicV at h
  simp only [hu] at h
  obtain ⟨z, e, w⟩ := pic_str hu h
  simp at e
  exact ⟨z, e, w⟩
theorem picV_slice {P : Program} {H : Heap} {n t e : Nat} {a : AV} (hu : P.underlying t = some (.slice e)) (h : PicV P H n t a) : Pic P H n t [a] := by
  unfold PicV at h
  simpa only [hu] using h
end Go.Abs

/- Functions of Go's library without a body: the model's stand-ins, that leave the memory alone. -/
namespace Go.Abs
set_option linter.unusedVariables false

/-- Functions told by a function over values: the memory stays. -/
def extPrims (l : List (FuncId × (List AV → Option AV))) : Prims := fun f => match l.find? fun p => p.1 == f with
  | some p => some fun args H => match p.2 args with
    | some v => some (v, H)
    | none => none
  | none => none
/-- A stand-in says what a function over values says. -/
def ExtSays (P : Program) (f : FuncId) (g : List AV → Option AV) : Prop :=
  ∃ fn e, P.funcs[f]? = some fn ∧ (fn.name == "runtime.NumGoroutine") = false ∧ fn.body.isNone = true ∧ Extern.findNext fn = none ∧ Extern.find fn = some e ∧
    ∀ (args : List AV) (v : AV), g args = some v → ∀ (ρ : Map) (us : Array Value) (w : World), VRels ρ args us.toList → ∃ u, (e us).run P w = .ok u w ∧ VRel ρ v u

theorem extPrims_ok {P : Program} {l : List (FuncId × (List AV → Option AV))} (h : ∀ p ∈ l, ExtSays P p.1 p.2) : PrimsOk P (extPrims l) := by
  refine ⟨?_, ?_⟩
  · intro f g hf args H v H' hg
    unfold extPrims at hf
    split at hf
    · injection hf with hf
      subst hf
      simp only [] at hg
      split at hg
      · injection hg with hg; injection hg with _ hg; subst hg; exact Nat.le_refl _
      · cases hg
    · cases hf
  · intro f g hf args H v H' hg ρ w us hs hwf hfree hargs
    unfold extPrims at hf
    split at hf
    · rename_i p hp
      injection hf with hf
      subst hf
      simp only [] at hg
      split at hg
      · rename_i v' hv
        injection hg with hg; injection hg with h1 h2; subst h1; subst h2
        have hmem := List.mem_of_find?_eq_some hp
        have hpf : p.1 = f := by simpa using List.find?_some hp
        obtain ⟨fn, e, hfn, hname, hb, hn, he, hsay⟩ := h p hmem
        rw [hpf] at hfn
        obtain ⟨u, hrun, hvr⟩ := hsay args v' hv ρ us w hargs
        refine does_value (ρ' := ρ) (w' := w) (u := u) ?_ ?_ hvr
        · rw [run_callFunc_extern hfn hname hb hn he, hrun]; rfl
        · exact
          { sim := hs
            ext := Ext.refl ρ
            out := fun _ _ => rfl
            next := Nat.le_refl _
            dom := fun _ h _ => h
            ro := fun _ _ h _ _ => h
            keeps := { size := Nat.le_refl _, kept := fun B o hB _ => hB, owns := fun B h => .inr h, tape := rfl, os := rfl, output := rfl } }
      · cases hg
    · cases hf
theorem extPrims_rl (l : List (FuncId × (List AV → Option AV))) : PrimsRl (extPrims l) := by
  intro f g hf args H v H' hg
  unfold extPrims at hf
  split at hf
  · injection hf with hf
    subst hf
    simp only [] at hg
    split at hg
    · injection hg with hg; injection hg with _ hg; subst hg; exact Rl.refl _
    · cases hg
  · cases hf

def orPrims (p q : Prims) : Prims := fun f => match p f with
  | some g => some g
  | none => q f
theorem orPrims_ok {P : Program} {p q : Prims} (hp : PrimsOk P p) (hq : PrimsOk P q) : PrimsOk P (orPrims p q) := by
  refine ⟨?_, ?_⟩
  · intro f g hf
    unfold orPrims at hf
    split at hf
    · rename_i g' h'
      injection hf with hf; subst hf
      exact hp.1 f _ h'
    · exact hq.1 f g hf
  · intro f g hf
    unfold orPrims at hf
    split at hf
    · rename_i g' h'
      injection hf with hf; subst hf
      exact hp.2 f _ h'
    · exact hq.2 f g hf
theorem orPrims_rl {p q : Prims} (hp : PrimsRl p) (hq : PrimsRl q) : PrimsRl (orPrims p q) := by
  intro f g hf
  unfold orPrims at hf
  split at hf
  · rename_i g' h'
    injection hf with hf; subst hf
    exact hp f _ h'
  · exact hq f g hf

/-- Closed calls, evaluated beside functions that are told by hand. -/
theorem closedPrims_on {P : Program} (hm : P.follows .mixedOrders = true) (hn : plainNames P = true) {base : Prims} (hb : PrimsOk P base) {l : List (FuncId × AV)}
    (h : ∀ p ∈ l, plainAV p.2 = true ∧ ∃ n H', acall P base n p.1 [] (Heap.start P.globals.size) = some (p.2, H')) : PrimsOk P (closedPrims l) := by
  refine ⟨?_, ?_⟩
  · intro f g hf args H v H' hg
    unfold closedPrims at hf
    split at hf
    · injection hf with hf
      subst hf
      simp only [] at hg
      split at hg
      · injection hg with hg; injection hg with _ hg; subst hg; exact Nat.le_refl _
      · cases hg
    · cases hf
  · intro f g hf args H v H' hg ρ w us hs hwf hfree hargs
    unfold closedPrims at hf
    split at hf
    · rename_i p hp
      injection hf with hf
      subst hf
      simp only [] at hg
      split at hg
      · rename_i he
        injection hg with hg; injection hg with h1 h2; subst h1; subst h2
        have hargs' : args = [] := by simpa using he
        subst hargs'
        have hmem := List.mem_of_find?_eq_some hp
        have hpf : p.1 = f := by simpa using List.find?_some hp
        obtain ⟨hpl, n, H', hrun⟩ := h p hmem
        rw [hpf] at hrun
        have hstart : Sim P.globals.size (fun g => if g < P.globals.size then some ⟨g, 0, 0⟩ else none) (Heap.start P.globals.size) w :=
          { obj := fun b o h => (by cases h), apart := fun b b' o o' p p' h => (by cases h), glob := fun g hg => ⟨⟨g, 0, 0⟩, by simp [hg], rfl, rfl⟩ }
        have hd := acall_ok hb hm hn n f [] _ _ _ hrun _ w us hstart (fun b _ => rfl) (fun b hb _ => by have : P.globals.size ≤ b := hb; simp; omega) hargs
        refine Delivers.mono' hd fun u w' ⟨ρ', hg, hv⟩ => ⟨ρ, ?_, VRel.plain hpl hv⟩
        have kept : ∀ (B : Nat) (o : Obj), w.heap[B]? = some o → w'.heap[B]? = some o := fun B o hB => hg.keeps.kept B o hB (by rintro ⟨b, o', p, h1, _⟩; cases h1)
        exact
          { sim := { obj := fun b o hb => (hs.obj b o hb).grow (Ext.refl ρ) kept, apart := hs.apart, glob := hs.glob }
            ext := Ext.refl ρ
            out := fun _ _ => rfl
            next := Nat.le_refl _
            dom := fun _ h _ => h
            ro := fun _ _ h _ _ => h
            keeps := { size := hg.keeps.size, kept := fun B o hB _ => kept B o hB, owns := fun B h => .inr h, tape := hg.keeps.tape, os := hg.keeps.os, output := hg.keeps.output } }
      · cases hg
    · cases hf
end Go.Abs

/- Functions told by contracts of the model's own calls (the kit's shelf): the memory that was there stays. -/
namespace Go.Abs
set_option linter.unusedVariables false

/-- What was there is there. -/
structure KeptW (w w' : World) : Prop where
  size : w.heap.size ≤ w'.heap.size
  kept : ∀ (B : Nat) (o : Obj), w.heap[B]? = some o → w'.heap[B]? = some o
  tape : w'.tape = w.tape
  os : w'.os = w.os
  output : w'.output = w.output
theorem KeptW.rfl {w : World} : KeptW w w := ⟨Nat.le_refl _, fun _ _ h => h, _root_.rfl, _root_.rfl, _root_.rfl⟩
/-- A function of the program says what a function over values says. -/
def BodySays (P : Program) (f : FuncId) (g : List AV → Option AV) : Prop :=
  ∃ fn, P.funcs[f]? = some fn ∧ (fn.name == "runtime.NumGoroutine") = false ∧ fn.body.isNone = false ∧
    ∀ (args : List AV) (v : AV), g args = some v → ∀ (ρ : Map) (us : Array Value) (w : World), VRels ρ args us.toList → Calls P f us w fun e w' => ∃ u, e = .returned u ∧ VRel ρ v u ∧ KeptW w w'
theorem run_callFunc_enter {P : Program} {f : FuncId} {fn : Func} (hf : P.funcs[f]? = some fn) (hname : (fn.name == "runtime.NumGoroutine") = false) (hb : fn.body.isNone = false) (args : Array Value) (w : World) :
    (callFunc f args).run P w = .ok (.enter f args) w := by
  have h1 : fn.name ≠ "runtime.NumGoroutine" := by simpa using hname
  have h2 : fn.body ≠ none := fun e => by rw [e] at hb; cases hb
  simp [callFunc, hf, h1, h2]
theorem bodyPrims_ok {P : Program} {l : List (FuncId × (List AV → Option AV))} (h : ∀ p ∈ l, BodySays P p.1 p.2) : PrimsOk P (extPrims l) := by
  refine ⟨?_, ?_⟩
  · intro f g hf args H v H' hg
    unfold extPrims at hf
    split at hf
    · injection hf with hf
      subst hf
      simp only [] at hg
      split at hg
      · injection hg with hg; injection hg with _ hg; subst hg; exact Nat.le_refl _
      · cases hg
    · cases hf
  · intro f g hf args H v H' hg ρ w us hs hwf hfree hargs
    unfold extPrims at hf
    split at hf
    · rename_i p hp
      injection hf with hf
      subst hf
      simp only [] at hg
      split at hg
      · rename_i v' hv
        injection hg with hg; injection hg with h1 h2; subst h1; subst h2
        have hmem := List.mem_of_find?_eq_some hp
        have hpf : p.1 = f := by simpa using List.find?_some hp
        obtain ⟨fn, hfn, hname, hb, hsay⟩ := h p hmem
        rw [hpf] at hfn hsay
        have hc := hsay args v' hv ρ us w hargs
        unfold Does Delivers
        rw [run_callFunc_enter hfn hname hb]
        refine hc.mono fun e w' ⟨u, he, hvr, hk⟩ => ⟨u, he, ρ, ?_, hvr⟩
        exact
          { sim := { obj := fun b o hb => (hs.obj b o hb).grow (Ext.refl ρ) hk.kept, apart := hs.apart, glob := hs.glob }
            ext := Ext.refl ρ
            out := fun _ _ => rfl
            next := Nat.le_refl _
            dom := fun _ h _ => h
            ro := fun _ _ h _ _ => h
            keeps := { size := hk.size, kept := fun B o hB _ => hk.kept B o hB, owns := fun B h => .inr h, tape := hk.tape, os := hk.os, output := hk.output } }
      · cases hg
    · cases hf
end Go.Abs

/- Rows of laws whose functions lean on functions told by hand. -/
namespace Go.Abs
set_option linter.unusedVariables false
theorem runs_on {P : Program} {base : Prims} {n f : Nat} {H : Heap} {v : AV} (h : ((acall P base n f [] H).map fun r => sameAV r.1 v) = some true) : ∃ n H', acall P base n f [] H = some (v, H') := by
  cases hr : acall P base n f [] H with
  | none => rw [hr] at h; simp at h
  | some r =>
    rw [hr] at h
    obtain ⟨u, H'⟩ := r
    simp at h
    rw [sameAV_ok h] at hr
    exact ⟨n, H', hr⟩
end Go.Abs
