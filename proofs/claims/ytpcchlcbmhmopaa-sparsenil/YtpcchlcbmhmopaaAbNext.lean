/- The abstract machine never takes a number twice: its next number only grows. -/
import Derived.Test.YtpcchlcbmhmopaaAbSem
namespace Go.Abs
set_option linter.unusedVariables false
set_option linter.unusedSimpArgs false

def CallMono (call : CallFn) : Prop := ∀ f args H v H', call f args H = some (v, H') → H.next ≤ H'.next

theorem writeCells_next {H H' : Heap} {b o : Nat} {vs : List AV} (h : writeCells H b o vs = some H') : H'.next = H.next := by
  unfold writeCells at h
  split at h
  · obtain rfl := Option.some.inj h; rfl
  · split at h
    · split at h
      · obtain rfl := Option.some.inj h; rfl
      · cases h
    · cases h

theorem appendA_next {elem : TypeId} {size bytes : Nat} {base : Option (Nat × Nat)} {sLen sCap : Nat} {sl : Option Nat} {n : Nat} {new : List AV} {H H' : Heap} {v : AV}
    (h : appendA elem size bytes base sLen sCap sl n new H = some (v, H')) : H.next ≤ H'.next := by
  rcases appendA_cases h with ⟨_, hh⟩ | ⟨_, _, old, _, _, hh⟩
  · rcases hh with ⟨_, _, rfl⟩ | ⟨b, o, _, hw, _⟩
    · exact Nat.le_refl _
    · rw [writeCells_next hw]; exact Nat.le_refl _
  · rcases hh with ⟨_, rfl⟩ | ⟨b, o, c, e, _, _, _, _, _, rfl⟩
    · simp
    · simp

/-- The heavy operations that are no calls. -/
def Sm.Mono (s : Sm) : Prop := ∀ H v H', s.run H = some (v, H') → H.next ≤ H'.next

theorem mono_pure (v : AV) : (Sm.pure v).Mono := by
  intro H v' H' h
  simp only [Sm.run, Option.some.injEq, Prod.mk.injEq] at h
  rw [h.2]; exact Nat.le_refl _

theorem mono_alloc (o : AObj) (mk : Nat → AV) : (Sm.alloc o mk).Mono := by
  intro H v' H' h
  simp only [Sm.run, Option.some.injEq, Prod.mk.injEq] at h
  rw [← h.2]; simp

theorem mono_read (bs : List Nat) (k : List AObj → Option AV) : (Sm.read bs k).Mono := by
  intro H v' H' h
  simp only [Sm.run] at h
  split at h
  · split at h
    · simp only [Option.some.injEq, Prod.mk.injEq] at h
      rw [h.2]; exact Nat.le_refl _
    · cases h
  · cases h

theorem mono_map {o : Option AV} {s : Sm} (h : o.map Sm.pure = some s) : s.Mono := by
  cases o with
  | none => cases h
  | some v => simp at h; subst h; exact mono_pure v

theorem eqSem_mono {P : Program} {t : TypeId} {x y : AV} {neg : Bool} {s : Sm} (h : eqSem P t x y neg = some s) : s.Mono := by
  unfold eqSem at h
  split at h <;> (try (obtain rfl := Option.some.inj h; exact mono_pure _)) <;> (try (cases h; done))
  · split at h
    · cases h
    · split at h
      · obtain rfl := Option.some.inj h; exact mono_pure _
      · obtain rfl := Option.some.inj h; exact mono_read _ _
  all_goals
    split at h
    · cases h
    · split at h
      · obtain rfl := Option.some.inj h; exact mono_pure _
      · cases h

theorem binSem_mono {P : Program} {op : BinOp} {t : TypeId} {x y : AV} {s : Sm} (h : binSem P op t x y = some s) : s.Mono := by
  unfold binSem at h
  split at h
  · exact mono_map h
  · exact mono_map h
  · split at h
    · exact mono_map h
    · cases h
  · exact mono_map h
  · split at h
    · obtain rfl := Option.some.inj h; exact mono_pure _
    · cases h
  · split at h
    · obtain rfl := Option.some.inj h; exact mono_pure _
    · cases h
  · exact eqSem_mono h
  · exact eqSem_mono h
  · cases h

theorem convSem_mono {P : Program} {src dst : TypeId} {x : AV} {s : Sm} (h : convSem P src dst x = some s) : s.Mono := by
  unfold convSem at h
  split at h
  · obtain rfl := Option.some.inj h; exact mono_pure _
  · obtain rfl := Option.some.inj h; exact mono_pure _
  · split at h
    · split at h
      · obtain rfl := Option.some.inj h; exact mono_alloc _ _
      · cases h
    · cases h
  · split at h
    · split at h
      · obtain rfl := Option.some.inj h
        intro H v H' hr
        simp only [Sm.run] at hr
        split at hr
        · simp only [Option.some.injEq, Prod.mk.injEq] at hr
          rw [← hr.2]; simp
        · cases hr
      · cases h
    · cases h
  · split at h
    · obtain rfl := Option.some.inj h; exact mono_pure _
    · obtain rfl := Option.some.inj h; exact mono_read _ _
    · cases h
  · cases h

theorem builtinSem_mono {P : Program} {b : Builtin} {ts : Array TypeId} {args : List AV} {s : Sm} (h : builtinSem P b ts args = some s) : s.Mono := by
  unfold builtinSem at h
  split at h
  · unfold appendSem at h
    split at h
    · cases h
    split at h
    case h_2 => cases h
    split at h
    case h_2 => cases h
    split at h
    · cases h
    split at h
    · split at h
      · split at h
        · obtain rfl := Option.some.inj h
          intro H v H' hr
          exact appendA_next hr
        · cases h
      · cases h
    · split at h
      · split at h
        · obtain rfl := Option.some.inj h
          intro H v H' hr
          simp only [Sm.run] at hr
          split at hr
          · split at hr
            · exact appendA_next hr
            · cases hr
          · cases hr
        · cases h
      · cases h
  · unfold copySem at h
    split at h
    · cases h
    split at h
    case h_2 => cases h
    split at h
    case h_2 => cases h
    obtain rfl := Option.some.inj h
    intro H v H' hr
    simp only [Sm.run] at hr
    split at hr
    · split at hr
      · cases hr
      · split at hr
        · simp only [Option.some.injEq, Prod.mk.injEq] at hr
          rw [hr.2]; exact Nat.le_refl _
        · split at hr
          · rename_i hw
            simp only [Option.some.injEq, Prod.mk.injEq] at hr
            rw [← hr.2, writeCells_next hw]; exact Nat.le_refl _
          · cases hr
    · cases hr
  · unfold clearSem at h
    split at h
    · cases h
    split at h
    · obtain rfl := Option.some.inj h; exact mono_pure _
    · obtain rfl := Option.some.inj h; exact mono_pure _
    · obtain rfl := Option.some.inj h
      intro H v H' hr
      simp only [Sm.run] at hr
      split at hr
      · simp only [Option.some.injEq, Prod.mk.injEq] at hr
        rw [← hr.2]; simp
      · cases hr
    · split at h
      · obtain rfl := Option.some.inj h; exact mono_pure _
      · split at h
        case h_2 => cases h
        split at h
        · cases h
        obtain rfl := Option.some.inj h
        intro H v H' hr
        simp only [Sm.run] at hr
        split at hr
        · rename_i hw
          simp only [Option.some.injEq, Prod.mk.injEq] at hr
          rw [← hr.2, writeCells_next hw]; exact Nat.le_refl _
        · cases hr
    · cases h
  · unfold deleteSem at h
    split at h
    · cases h
    split at h
    · split at h
      · obtain rfl := Option.some.inj h; exact mono_pure _
      · cases h
    · split at h
      · obtain rfl := Option.some.inj h
        intro H v H' hr
        simp only [Sm.run] at hr
        split at hr
        · split at hr
          · simp only [Option.some.injEq, Prod.mk.injEq] at hr
            rw [← hr.2]; simp
          · simp only [Option.some.injEq, Prod.mk.injEq] at hr
            rw [hr.2]; exact Nat.le_refl _
          · cases hr
        · cases hr
      · cases h
    · cases h
  · unfold lenSem at h
    split at h
    · cases h
    split at h <;> (try (obtain rfl := Option.some.inj h; exact mono_pure _)) <;> (try (cases h; done))
    · obtain rfl := Option.some.inj h; exact mono_read _ _
    · split at h
      · obtain rfl := Option.some.inj h; exact mono_pure _
      · cases h
  · unfold capSem at h
    split at h
    · cases h
    split at h <;> first
      | (obtain rfl := Option.some.inj h; exact mono_pure _)
      | cases h
  · exact mono_map h
  · exact mono_map h
  · cases h

theorem sem_mono {P : Program} {call : CallFn} (hc : CallMono call) {T : List AV} {op : Op} {s : Sm} (h : sem P call T op = some s) : s.Mono := by
  cases op <;> simp only [sem] at h
  case move x => exact mono_map h
  case assign x => exact mono_map h
  case pick c x y =>
    split at h
    · obtain rfl := Option.some.inj h; exact mono_pure _
    · cases h
  case alloc e =>
    cases hz : tzero P e with
    | none => simp [hz] at h
    | some z => simp [hz] at h; subst h; exact mono_alloc _ _
  case box e x =>
    cases hz : ev P T x with
    | none => simp [hz] at h
    | some z => simp [hz] at h; subst h; exact mono_alloc _ _
  case build t parts =>
    split at h
    · exact mono_map h
    · cases h
  case buildSlice t n parts =>
    split at h
    · unfold buildSliceA at h
      split at h
      · split at h
        · split at h
          · cases h
          · split at h
            · obtain rfl := Option.some.inj h; exact mono_alloc _ _
            · cases h
        · cases h
      · cases h
    · cases h
  case load t x =>
    split at h
    · obtain rfl := Option.some.inj h; exact mono_read _ _
    · cases h
  case store t x y =>
    split at h
    · split at h
      · cases h
      · obtain rfl := Option.some.inj h
        intro H v H' hr
        simp only [Sm.run] at hr
        split at hr
        · rename_i hw
          simp only [Option.some.injEq, Prod.mk.injEq] at hr
          rw [← hr.2, writeCells_next hw]; exact Nat.le_refl _
        · cases hr
    · cases h
  case nilCheck x =>
    split at h
    · obtain rfl := Option.some.inj h; exact mono_pure _
    · obtain rfl := Option.some.inj h; exact mono_pure _
    · cases h
  case binOp op t x y ty =>
    split at h
    · exact binSem_mono h
    · cases h
  case unOp op t x =>
    split at h
    · exact mono_map h
    · cases h
  case convert src dst x =>
    split at h
    · exact convSem_mono h
    · cases h
  case sliceToArrayPointer arr x =>
    split at h
    · split at h
      · cases h
      · split at h
        · cases h
        · obtain rfl := Option.some.inj h; exact mono_pure _
    · cases h
  case makeInterface t x =>
    split at h
    · cases h
    · obtain rfl := Option.some.inj h; exact mono_pure _
    · cases h
  case makeFunc fn first captured =>
    split at h
    · obtain rfl := Option.some.inj h; exact mono_pure _
    · cases h
  case makeMap t r =>
    split at h
    · obtain rfl := Option.some.inj h; exact mono_alloc _ _
    · split at h
      · obtain rfl := Option.some.inj h; exact mono_alloc _ _
      · cases h
    · cases h
  case makeSlice t l c =>
    split at h
    · unfold makeSliceSem at h
      split at h
      · split at h
        · split at h
          · obtain rfl := Option.some.inj h; exact mono_alloc _ _
          · cases h
        · cases h
      · cases h
    · cases h
  case slice t x lo hi mx =>
    split at h
    · exact mono_map h
    · cases h
  case fieldAddr st x f =>
    split at h
    · split at h
      · split at h
        · cases h
        · obtain rfl := Option.some.inj h; exact mono_pure _
      · cases h
    · cases h
  case field t x f =>
    split at h
    · split at h
      · exact mono_map h
      · cases h
    · cases h
  case indexAddr t x ix =>
    split at h
    · exact mono_map h
    · cases h
  case index t x ix =>
    split at h
    · exact mono_map h
    · cases h
  case lookup t x k ok =>
    split at h
    · unfold lookupSem at h
      split at h
      · split at h
        · split at h
          · obtain rfl := Option.some.inj h; exact mono_pure _
          · obtain rfl := Option.some.inj h; exact mono_read _ _
          · cases h
        · cases h
      · cases h
    · cases h
  case mapUpdate t m k x =>
    split at h
    · unfold updateSem at h
      split at h
      · split at h
        · obtain rfl := Option.some.inj h
          intro H v H' hr
          simp only [Sm.run] at hr
          split at hr
          · split at hr
            · simp only [Option.some.injEq, Prod.mk.injEq] at hr
              rw [← hr.2]; simp
            · simp only [Option.some.injEq, Prod.mk.injEq] at hr
              rw [← hr.2]; simp
            · cases hr
          · cases hr
        · cases h
      · cases h
    · cases h
  case insert t m k x =>
    split at h
    · unfold updateSem at h
      split at h
      · split at h
        · obtain rfl := Option.some.inj h
          intro H v H' hr
          simp only [Sm.run] at hr
          split at hr
          · split at hr
            · simp only [Option.some.injEq, Prod.mk.injEq] at hr
              rw [← hr.2]; simp
            · simp only [Option.some.injEq, Prod.mk.injEq] at hr
              rw [← hr.2]; simp
            · cases hr
          · cases hr
        · cases h
      · cases h
    · cases h
  case extract t ix =>
    split at h
    · exact mono_map h
    · cases h
  case call c =>
    unfold callSem at h
    split at h
    · cases h
    split at h
    · exact builtinSem_mono h
    · split at h
      · obtain rfl := Option.some.inj h
        intro H v H' hr
        exact hc _ _ _ _ _ hr
      · cases h
    · cases h
  all_goals cases h

theorem runOp_mono {P : Program} {call : CallFn} (hc : CallMono call) {T : List AV} {o : Oper} {H H' : Heap} {v : AV} (h : runOp P call T o H = some (v, H')) : H.next ≤ H'.next := by
  unfold runOp at h
  split at h
  · rename_i s hs
    exact sem_mono hc hs H v H' h
  · cases h

theorem runOps_mono {P : Program} {call : CallFn} (hc : CallMono call) {ops : Array Oper} : ∀ {os : List Oper} {T T' : List AV} {H H' : Heap}, runOps P call ops os T H = some (T', H') → H.next ≤ H'.next
  | [], T, T', H, H', h => by
    simp only [runOps, Option.some.injEq, Prod.mk.injEq] at h
    rw [h.2]; exact Nat.le_refl _
  | o :: os, T, T', H, H', h => by
    simp only [runOps] at h
    split at h
    · split at h
      · rename_i v H1 h1
        exact Nat.le_trans (runOp_mono hc h1) (runOps_mono hc h)
      · cases h
    · exact runOps_mono hc h

theorem dstep_mono {P : Program} {call : CallFn} (hc : CallMono call) {ops : Array Oper} {b : Array Nat} {hv : List Nat} {n0 i : Nat} {s s' : St} (h : dstep P call ops b hv n0 i s = some s') : s.H.next ≤ s'.H.next := by
  unfold dstep at h
  split at h
  · cases h
  split at h
  · split at h
    · split at h
      · rename_i v H1 h1
        obtain rfl := Option.some.inj h
        exact runOp_mono hc h1
      · cases h
    · obtain rfl := Option.some.inj h
      exact Nat.le_refl _
  · split at h
    · rename_i v x _
      obtain rfl := Option.some.inj h
      cases x with
      | none => exact Nat.le_refl _
      | some o => simp [pushO]
    · cases h

theorem drun_mono {P : Program} {call : CallFn} (hc : CallMono call) {ops : Array Oper} {b : Array Nat} {hv : List Nat} {n0 : Nat} : ∀ {is : List Nat} {s s' : St}, drun P call ops b hv n0 is s = some s' → s.H.next ≤ s'.H.next
  | [], s, s', h => by
    simp only [drun, Option.some.injEq] at h
    rw [h]; exact Nat.le_refl _
  | i :: is, s, s', h => by
    simp only [drun] at h
    split at h
    · rename_i s1 h1
      exact Nat.le_trans (dstep_mono hc h1) (drun_mono hc h)
    · cases h

theorem runRegion_mono {P : Program} {call : CallFn} (hc : CallMono call) {ops : Array Oper} {draw : Bool} {T T' : List AV} {H H' : Heap} (h : runRegion P call ops draw T H = some (T', H')) : H.next ≤ H'.next := by
  unfold runRegion at h
  split at h
  · unfold drawRun at h
    split at h
    · split at h
      · rename_i s hs
        simp only [Option.some.injEq, Prod.mk.injEq] at h
        rw [← h.2]
        exact drun_mono hc hs
      · cases h
    · cases h
  · exact runOps_mono hc h

theorem runLoop_mono {f : List AV → Heap → Out} (hf : ∀ T H e T' H', f T H = some (e, T', H') → H.next ≤ H'.next) : ∀ (n : Nat) (T T' : List AV) (H H' : Heap) (e : AX), runLoop f n T H = some (e, T', H') → H.next ≤ H'.next
  | 0, T, T', H, H', e, h => by cases h
  | n + 1, T, T', H, H', e, h => by
    simp only [runLoop] at h
    split at h
    · rename_i T1 H1 h1
      exact Nat.le_trans (hf _ _ _ _ _ h1) (runLoop_mono hf n _ _ _ _ _ h)
    · exact hf _ _ _ _ _ h

theorem runCode_mono {P : Program} {call : CallFn} (hc : CallMono call) {n : Nat} : ∀ (c : Code) (T T' : List AV) (H H' : Heap) (e : AX), runCode P call n c T H = some (e, T', H') → H.next ≤ H'.next := by
  intro c
  induction c with
  | skip => intro T T' H H' e h; simp only [runCode, Option.some.injEq, Prod.mk.injEq] at h; rw [h.2.2]; exact Nat.le_refl _
  | label l => intro T T' H H' e h; simp only [runCode, Option.some.injEq, Prod.mk.injEq] at h; rw [h.2.2]; exact Nat.le_refl _
  | region id ops draw =>
    intro T T' H H' e h
    simp only [runCode] at h
    split at h
    · rename_i T1 H1 h1
      simp only [Option.some.injEq, Prod.mk.injEq] at h
      rw [← h.2.2]
      exact runRegion_mono hc h1
    · cases h
  | seq a b iha ihb =>
    intro T T' H H' e h
    simp only [runCode] at h
    split at h
    · rename_i T1 H1 h1
      exact Nat.le_trans (iha _ _ _ _ _ h1) (ihb _ _ _ _ _ h)
    · exact iha _ _ _ _ _ h
  | cond c x y ihx ihy =>
    intro T T' H H' e h
    simp only [runCode] at h
    split at h
    · exact ihx _ _ _ _ _ h
    · exact ihy _ _ _ _ _ h
    · cases h
  | block id body ih =>
    intro T T' H H' e h
    simp only [runCode] at h
    split at h
    · rename_i id' T1 H1 h1
      split at h
      · simp only [Option.some.injEq, Prod.mk.injEq] at h
        rw [← h.2.2]
        exact ih _ _ _ _ _ h1
      · simp only [Option.some.injEq, Prod.mk.injEq] at h
        rw [← h.2.2]
        exact ih _ _ _ _ _ h1
    · exact ih _ _ _ _ _ h
  | loop body ih =>
    intro T T' H H' e h
    simp only [runCode] at h
    exact runLoop_mono (fun T H e T' H' h => ih T T' H H' e h) n T T' H H' e h
  | exit id => intro T T' H H' e h; simp only [runCode, Option.some.injEq, Prod.mk.injEq] at h; rw [h.2.2]; exact Nat.le_refl _
  | scope body ih => intro T T' H H' e h; simp only [runCode] at h; exact ih _ _ _ _ _ h
  | ret => intro T T' H H' e h; simp only [runCode, Option.some.injEq, Prod.mk.injEq] at h; rw [h.2.2]; exact Nat.le_refl _
  | rangeFunc f ps a b iha ihb => intro T T' H H' e h; simp [runCode] at h
  | goto l => intro T T' H H' e h; simp [runCode] at h
  | refuse why => intro T T' H H' e h; simp [runCode] at h

theorem runBody_mono {P : Program} {call : CallFn} (hc : CallMono call) {n : Nat} {fn : Func} {args : List AV} {H H' : Heap} {v : AV} (h : runBody P call n fn args H = some (v, H')) : H.next ≤ H'.next := by
  unfold runBody at h
  split at h
  · cases h
  split at h
  · rename_i h1
    split at h
    · simp only [Option.some.injEq, Prod.mk.injEq] at h
      rw [← h.2]
      exact runCode_mono hc _ _ _ _ _ _ h1
    · cases h
  · rename_i h1
    split at h
    · simp only [Option.some.injEq, Prod.mk.injEq] at h
      rw [← h.2]
      exact runCode_mono hc _ _ _ _ _ _ h1
    · cases h
  · cases h

def PrimsMono (prims : Prims) : Prop := ∀ f g, prims f = some g → ∀ args H v H', g args H = some (v, H') → H.next ≤ H'.next

theorem acall_mono {P : Program} {prims : Prims} (hp : PrimsMono prims) : ∀ n, CallMono (acall P prims n)
  | 0 => by intro f args H v H' h; cases h
  | n + 1 => by
    intro f args H v H' h
    simp only [acall] at h
    split at h
    · rename_i g hg
      exact hp f g hg _ _ _ _ h
    · split at h
      · exact runBody_mono (acall_mono hp n) h
      · cases h

end Go.Abs
