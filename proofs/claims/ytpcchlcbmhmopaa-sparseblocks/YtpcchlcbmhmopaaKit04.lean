/- Texts on the abstract machine, joined. -/
import Derived.Test.YtpcchlcbmhmopaaKit03

/- All operations: what the abstract machine says of one, the model does. -/
namespace Go.Abs
set_option linter.unusedVariables false
set_option linter.unusedSimpArgs false

section
variable {P : Program} {a : Act} {ρ : Map}

theorem semOk_congr {s : Sm} {n n' : Sem Next} (h : ∀ w, n.run P w = n'.run P w) (hs : SemOk P a s n' ρ) : SemOk P a s n ρ :=
  fun H w v H' hsim hr hf hwf => does_congr (h w) (hs H w v H' hsim hr hf hwf)

theorem callSem_ok {call : CallFn} (hcall : CallOk P call) {T : List AV} {c : Call} {ty : TypeId} {s : Sm} (h : callSem P call T c = some s) (hf : Frel ρ T a) (hg : Glob P ρ) :
    SemOk P a s (do let d ← resolve a.eval c ty; invoke d.target d.args) ρ := by
  unfold callSem at h
  split at h
  · cases h
  rename_i args hargs
  have hrel := evs_rel hf hg hargs
  split at h
  · rename_i b hb
    refine semOk_congr (n' := builtin b c.argTypes ty (c.args.map fun | .const _ => true | _ => false) (c.args.map a.eval)) (fun w => ?_) (builtin_ok h hrel)
    simp only [resolve, hb, Sem.run_bind, Sem.run_pure, Result.andThen_ok, invoke]
    rfl
  · rename_i f hc
    split at h
    case h_2 => cases h
    rename_i g first captured hev
    obtain rfl := Option.some.inj h
    have hfv := ev_rel hf hg hev
    obtain ⟨us, vs, hfe, hu, hv⟩ := hfv
    refine semOk_congr (n' := callFunc g (us ++ c.args.map a.eval ++ vs)) (fun w => ?_) ?_
    · simp only [resolve, hc, hfe, Deferred.ofValue, Sem.run_bind, Sem.run_pure, Result.andThen_ok, invoke]
    · intro H w v H' hsim hr hfree hwf
      refine hcall g _ H v H' hr ρ w _ hsim (hwf _ rfl) hfree ?_
      rw [Array.toList_append, Array.toList_append]
      exact (hu.append hrel).append hv
  · cases h

set_option maxHeartbeats 1000000 in
theorem sem_sound {call : CallFn} (hcall : CallOk P call) {T : List AV} {o : Oper} {s : Sm} (h : sem P call T o.op = some s) (hf : Frel ρ T a) (hg : Glob P ρ) : SemOk P a s (execOp a.eval o) ρ := by
  obtain ⟨dst, op, type, pos, after, guard⟩ := o
  simp only at h
  cases op <;> simp only [sem] at h
  case move x =>
    cases hx : ev P T x with
    | none => simp [hx] at h
    | some v =>
      simp only [hx, Option.map_some, Option.some.injEq] at h
      subst h
      exact semOk_pure (fun w => rfl) (ev_rel hf hg hx)
  case assign x =>
    cases hx : ev P T x with
    | none => simp [hx] at h
    | some v =>
      simp only [hx, Option.map_some, Option.some.injEq] at h
      subst h
      exact semOk_pure (fun w => rfl) (ev_rel hf hg hx)
  case pick c x y =>
    split at h
    case h_2 => cases h
    rename_i t vx vy hc hx hy
    obtain rfl := Option.some.inj h
    have h1 := ev_rel hf hg hc
    simp only [VRel] at h1
    refine semOk_pure (u := if t then a.eval x else a.eval y) (fun w => ?_) ?_
    · simp only [execOp, h1, asBool, Sem.run_bind, Sem.run_pure, Result.andThen_ok]
    · cases t
      · exact ev_rel hf hg hy
      · exact ev_rel hf hg hx
  case alloc e =>
    cases hz : tzero P e with
    | none => simp [hz] at h
    | some z =>
      simp only [hz, Option.map_some, Option.some.injEq] at h
      subst h
      obtain ⟨zu, hzu, hzr⟩ := tzero_run hz
      refine semOk_newRow (C := zu.cells) (el := e) (u := fun B => .pointer (some ⟨B, 0, none⟩)) (fun w => ?_) (hzr ρ).cells (fun ρ' b B hB => ⟨_, hB, rfl⟩)
      simp [execOp, Instr.alloc, hzu, newVar, newRow]
  case box e x =>
    cases hx : ev P T x with
    | none => simp [hx] at h
    | some v =>
      simp only [hx, Option.map_some, Option.some.injEq] at h
      subst h
      refine semOk_newRow (C := (a.eval x).cells) (el := e) (u := fun B => .pointer (some ⟨B, 0, none⟩)) (fun w => ?_) (ev_rel hf hg hx).cells (fun ρ' b B hB => ⟨_, hB, rfl⟩)
      simp [execOp, Instr.box, newVar, newRow]
  case build t parts =>
    split at h
    case h_2 => cases h
    rename_i ps hps
    cases hb : buildA P t ps with
    | none => simp [hb] at h
    | some v =>
      simp only [hb, Option.map_some, Option.some.injEq] at h
      subst h
      have hpr := evParts_rel hf hg hps
      obtain ⟨u, hu, hr⟩ := build_ok (parts := parts.map fun (i, x) => (i, a.eval x)) hb (by simpa using hpr)
      exact semOk_pure (fun w => run_v _ _ _ _ (hu w)) hr
  case buildSlice t n parts =>
    split at h
    case h_2 => cases h
    rename_i ps hps
    have hpr := evParts_rel hf hg hps
    have key : ∀ f : Nat × Operand → Nat × Value, (∀ p, f p = (p.1, a.eval p.2)) → SemOk P a s (do pure (Next.value (← Instr.buildSlice t n (parts.map f)))) ρ := by
      intro f hf
      have e : f = fun p => (p.1, a.eval p.2) := funext hf
      subst e
      exact buildSlice_ok h (by rw [Array.toList_map]; exact hpr)
    exact key _ (fun p => rfl)
  case load t x =>
    split at h
    case h_2 => cases h
    rename_i b o g n hx hgt hn
    obtain rfl := Option.some.inj h
    have hp := ev_rel hf hg hx
    obtain ⟨p, hp, he⟩ := hp
    refine semOk_read fun H w os v' hsim hos hk => ?_
    obtain ⟨ob, hob, rfl⟩ := mapOpt_one hos
    obtain ⟨u, hu, hr⟩ := var_read (P := P) hsim hgt hn hob hp hk
    refine ⟨u, run_v _ _ _ _ ?_, hr⟩
    simp only [Instr.loadAt, he, Instr.sureAddr, Sem.run_bind, Sem.run_pure, Result.andThen_ok]
    exact hu
  case store t x y =>
    split at h
    case h_2 => cases h
    rename_i b o v n hx hy hn
    split at h
    · cases h
    rename_i hlen
    simp only [ne_eq, Decidable.not_not] at hlen
    obtain rfl := Option.some.inj h
    obtain ⟨p, hp, he⟩ := ev_rel hf hg hx
    have hv := ev_rel hf hg hy
    intro H w v' H' hsim hr hfree hwf
    simp only [Sm.run] at hr
    cases hw : writeCells H b o v.cells with
    | none => simp [hw] at hr
    | some H1 =>
      simp only [hw, Option.some.injEq, Prod.mk.injEq] at hr
      obtain ⟨rfl, rfl⟩ := hr
      obtain ⟨w', hrun, hgd⟩ := writeCells_run (P := P) hsim hp hw hv.cells
      refine does_skip (run_u _ _ w' ?_) hgd
      have hsz := size_cells hv
      simp only [Instr.storeAt, he, Instr.sureAddr, Sem.run_bind, Sem.run_pure, Result.andThen_ok, storeVar, tsz_run hn]
      rw [if_neg (by rw [hsz, hlen]; simp)]
      simpa using hrun
  case nilCheck x =>
    split at h
    · rename_i q hx
      obtain rfl := Option.some.inj h
      have hv := ev_rel hf hg hx
      obtain ⟨p, hp, he⟩ := hv
      exact semOk_pure (u := .pointer (some ⟨p.blk, p.off + q.2, none⟩)) (fun w => by simp [execOp, he]) ⟨p, hp, rfl⟩
    · rename_i f xs ys hx
      obtain rfl := Option.some.inj h
      obtain ⟨us, vs, he, r⟩ := ev_rel hf hg hx
      exact semOk_pure (u := .func (.func f) us vs) (fun w => by simp [execOp, he]) ⟨us, vs, rfl, r⟩
    · cases h
  case binOp op t x y ty =>
    split at h
    case h_2 => cases h
    rename_i vx vy hx hy
    exact binSem_ok h (ev_rel hf hg hx) (ev_rel hf hg hy)
  case unOp op t x =>
    split at h
    case h_2 => cases h
    rename_i vx hx
    cases hu : unSem op vx with
    | none => simp [hu] at h
    | some v =>
      simp only [hu, Option.map_some, Option.some.injEq] at h
      subst h
      obtain ⟨r, hr, hrel⟩ := unSem_ok (P := P) hu (ev_rel hf hg hx)
      exact semOk_pure (fun w => run_v _ _ _ _ (hr w)) hrel
  case convert src d x =>
    split at h
    case h_2 => cases h
    rename_i vx hx
    exact conv_ok h (ev_rel hf hg hx)
  case sliceToArrayPointer arr x =>
    split at h
    case h_2 => cases h
    rename_i n e q len c sl hd hx
    split at h
    · cases h
    rename_i h1
    split at h
    · cases h
    rename_i h2
    obtain rfl := Option.some.inj h
    obtain ⟨p, y, c', hp, he, g1, g2, g5, g6⟩ := ev_rel hf hg hx
    have hy : y = ⟨p.blk, p.off + q.2, none⟩ := by
      rcases g5 with g5 | g5
      · omega
      · exact g5
    subst hy
    refine semOk_pure (u := .pointer (some ⟨p.blk, p.off + q.2, none⟩)) (fun w => run_v _ _ _ _ ?_) ⟨p, hp, rfl⟩
    simp [Instr.arrayAt, und_run hd, he, h1]
  case makeInterface t x =>
    split at h
    · cases h
    · rename_i d v hne hd hx
      obtain rfl := Option.some.inj h
      refine semOk_pure (u := .iface t (a.eval x)) (fun w => run_v _ _ _ _ ?_) ⟨_, rfl, ev_rel hf hg hx⟩
      cases d <;> first
        | exact (hne _ rfl).elim
        | simp [Instr.makeInterface, und_run hd]
    · cases h
  case makeFunc fn first captured =>
    split at h
    case h_2 => cases h
    rename_i xs ys hx hy
    obtain rfl := Option.some.inj h
    exact semOk_pure (u := .func fn (first.map a.eval) (captured.map a.eval)) (fun w => rfl) ⟨_, _, rfl, evs_rel hf hg hx, evs_rel hf hg hy⟩
  case makeMap t r =>
    split at h
    · rename_i k e hd
      obtain rfl := Option.some.inj h
      exact makeMap_ok ⟨k, e, hd⟩ (by simp)
    · rename_i k e x hd
      split at h
      case h_2 => cases h
      rename_i k2 n hx
      obtain rfl := Option.some.inj h
      have hv := ev_rel hf hg hx
      exact makeMap_ok ⟨k, e, hd⟩ (by intro y hy; simp at hy; rw [← hy]; exact ⟨_, _, hv⟩)
    · cases h
  case makeSlice t l c =>
    split at h
    case h_2 => cases h
    rename_i vl vc hl hc
    exact makeSlice_ok h (ev_rel hf hg hl) (ev_rel hf hg hc)
  case slice t x lo hi mx =>
    split at h
    case h_2 => cases h
    rename_i v l hh m hx hlo hhi hmx
    cases hs : sliceSem P t v l hh m with
    | none => simp [hs] at h
    | some r =>
      simp only [hs, Option.map_some, Option.some.injEq] at h
      subst h
      obtain ⟨u, hu, hr⟩ := slice_ok hs (ev_rel hf hg hx) (evOpt_rel hf hg hlo) (evOpt_rel hf hg hhi) (evOpt_rel hf hg hmx)
      exact semOk_pure (fun w => run_v _ _ _ _ (hu w)) hr
  case fieldAddr st x f =>
    split at h
    case h_2 => cases h
    rename_i fields b o hd hx
    split at h
    case h_2 => cases h
    rename_i fd hfd
    split at h
    · cases h
    rename_i hz
    obtain rfl := Option.some.inj h
    obtain ⟨r, hr, hrel⟩ := fieldAddr_ok hd hfd hz (ev_rel hf hg hx)
    exact semOk_pure (fun w => run_v _ _ _ _ (hr w)) hrel
  case field t x f =>
    split at h
    case h_2 => cases h
    rename_i fields cs hd hx
    split at h
    case h_2 => cases h
    rename_i fd hfd
    cases hp : partA P fd.type cs fd.offset with
    | none => simp [hp] at h
    | some v =>
      simp only [hp, Option.map_some, Option.some.injEq] at h
      subst h
      obtain ⟨r, hr, hrel⟩ := field_ok hd hfd hp (ev_rel hf hg hx)
      exact semOk_pure (fun w => run_v _ _ _ _ (hr w)) hrel
  case indexAddr t x ix =>
    split at h
    case h_2 => cases h
    rename_i vx vi hx hi
    cases hs : indexAddrSem P t vx vi with
    | none => simp [hs] at h
    | some v =>
      simp only [hs, Option.map_some, Option.some.injEq] at h
      subst h
      obtain ⟨r, hr, hrel⟩ := indexAddr_ok hs (ev_rel hf hg hx) (ev_rel hf hg hi)
      exact semOk_pure (fun w => run_v _ _ _ _ (hr w)) hrel
  case index t x ix =>
    split at h
    case h_2 => cases h
    rename_i vx vi hx hi
    cases hs : indexSem P t vx vi with
    | none => simp [hs] at h
    | some v =>
      simp only [hs, Option.map_some, Option.some.injEq] at h
      subst h
      obtain ⟨r, hr, hrel⟩ := index_ok hs (ev_rel hf hg hx) (ev_rel hf hg hi)
      exact semOk_pure (fun w => run_v _ _ _ _ (hr w)) hrel
  case lookup t x k ok =>
    split at h
    case h_2 => cases h
    rename_i vx vk hx hk
    exact lookup_ok h (ev_rel hf hg hx) (ev_rel hf hg hk)
  case mapUpdate t m k x =>
    split at h
    case h_2 => cases h
    rename_i vm vk vx hm hk hx
    exact update_ok h (ev_rel hf hg hm) (ev_rel hf hg hk) (ev_rel hf hg hx)
  case insert t m k x =>
    split at h
    case h_2 => cases h
    rename_i vm vk vx hm hk hx
    exact update_ok h (ev_rel hf hg hm) (ev_rel hf hg hk) (ev_rel hf hg hx)
  case extract t ix =>
    split at h
    case h_2 => cases h
    rename_i vs hx
    cases hi : vs[ix]? with
    | none => simp [hi] at h
    | some v =>
      simp only [hi, Option.map_some, Option.some.injEq] at h
      subst h
      obtain ⟨ds, he, hr⟩ := ev_rel hf hg hx
      obtain ⟨u, hu, hrel⟩ := hr.get ix v hi
      refine semOk_pure (u := u) (fun w => run_v _ _ _ _ ?_) hrel
      have : ds[ix]? = some u := by simpa using hu
      simp [Instr.extract, he, this]
  case call c =>
    exact callSem_ok hcall h hf hg
  all_goals cases h

end
end Go.Abs

/- The abstract machine never takes a number twice: its next number only grows. -/
namespace Go.Abs
set_option linter.unusedVariables false
set_option linter.unusedSimpArgs false

def CallMono (call : CallFn) : Prop := ∀ f args H v H', call f args H = some (v, H') → H.next ≤ H'.next

theorem writeCells_next {H H' : Heap} {b o : Nat} {vs : List AV} (h : writeCells H b o vs = some H') : H'.next = H.next := by
  unfold writeCells at h
  split at h
  · obtain rfl := Option.some.inj h; rfl
  · split at h
    · split at h
      · obtain rfl := Option.some.inj h; rfl
      · cases h
    · cases h

theorem appendA_next {elem : TypeId} {size bytes : Nat} {base : Option (Nat × Nat)} {sLen sCap : Nat} {sl : Option Nat} {n : Nat} {new : List AV} {H H' : Heap} {v : AV}
    (h : appendA elem size bytes base sLen sCap sl n new H = some (v, H')) : H.next ≤ H'.next := by
  rcases appendA_cases h with ⟨_, hh⟩ | ⟨_, _, old, _, _, hh⟩
  · rcases hh with ⟨_, _, rfl⟩ | ⟨b, o, _, hw, _⟩
    · exact Nat.le_refl _
    · rw [writeCells_next hw]; exact Nat.le_refl _
  · rcases hh with ⟨_, rfl⟩ | ⟨b, o, c, e, _, _, _, _, _, rfl⟩
    · simp
    · simp

/-- The heavy operations that are no calls. -/
def Sm.Mono (s : Sm) : Prop := ∀ H v H', s.run H = some (v, H') → H.next ≤ H'.next

theorem mono_pure (v : AV) : (Sm.pure v).Mono := by
  intro H v' H' h
  simp only [Sm.run, Option.some.injEq, Prod.mk.injEq] at h
  rw [h.2]; exact Nat.le_refl _

theorem mono_alloc (o : AObj) (mk : Nat → AV) : (Sm.alloc o mk).Mono := by
  intro H v' H' h
  simp only [Sm.run, Option.some.injEq, Prod.mk.injEq] at h
  rw [← h.2]; simp

theorem mono_read (bs : List Nat) (k : List AObj → Option AV) : (Sm.read bs k).Mono := by
  intro H v' H' h
  simp only [Sm.run] at h
  split at h
  · split at h
    · simp only [Option.some.injEq, Prod.mk.injEq] at h
      rw [h.2]; exact Nat.le_refl _
    · cases h
  · cases h

theorem mono_map {o : Option AV} {s : Sm} (h : o.map Sm.pure = some s) : s.Mono := by
  cases o with
  | none => cases h
  | some v => simp at h; subst h; exact mono_pure v

theorem eqSem_mono {P : Program} {t : TypeId} {x y : AV} {neg : Bool} {s : Sm} (h : eqSem P t x y neg = some s) : s.Mono := by
  unfold eqSem at h
  split at h <;> (try (obtain rfl := Option.some.inj h; exact mono_pure _)) <;> (try (cases h; done))
  · split at h
    · cases h
    · split at h
      · obtain rfl := Option.some.inj h; exact mono_pure _
      · obtain rfl := Option.some.inj h; exact mono_read _ _
  all_goals
    split at h
    · cases h
    · split at h
      · obtain rfl := Option.some.inj h; exact mono_pure _
      · cases h

theorem binSem_mono {P : Program} {op : BinOp} {t : TypeId} {x y : AV} {s : Sm} (h : binSem P op t x y = some s) : s.Mono := by
  unfold binSem at h
  split at h
  · exact mono_map h
  · exact mono_map h
  · split at h
    · exact mono_map h
    · cases h
  · exact mono_map h
  · split at h
    · obtain rfl := Option.some.inj h; exact mono_pure _
    · cases h
  · split at h
    · obtain rfl := Option.some.inj h; exact mono_pure _
    · cases h
  · exact eqSem_mono h
  · exact eqSem_mono h
  · cases h

theorem convSem_mono {P : Program} {src dst : TypeId} {x : AV} {s : Sm} (h : convSem P src dst x = some s) : s.Mono := by
  unfold convSem at h
  split at h
  · obtain rfl := Option.some.inj h; exact mono_pure _
  · obtain rfl := Option.some.inj h; exact mono_pure _
  · split at h
    · split at h
      · obtain rfl := Option.some.inj h; exact mono_alloc _ _
      · cases h
    · cases h
  · split at h
    · split at h
      · obtain rfl := Option.some.inj h
        intro H v H' hr
        simp only [Sm.run] at hr
        split at hr
        · simp only [Option.some.injEq, Prod.mk.injEq] at hr
          rw [← hr.2]; simp
        · cases hr
      · cases h
    · cases h
  · split at h
    · obtain rfl := Option.some.inj h; exact mono_pure _
    · obtain rfl := Option.some.inj h; exact mono_read _ _
    · cases h
  · cases h

theorem builtinSem_mono {P : Program} {b : Builtin} {ts : Array TypeId} {args : List AV} {s : Sm} (h : builtinSem P b ts args = some s) : s.Mono := by
  unfold builtinSem at h
  split at h
  · unfold appendSem at h
    split at h
    · cases h
    split at h
    case h_2 => cases h
    split at h
    case h_2 => cases h
    split at h
    · cases h
    split at h
    · split at h
      · split at h
        · obtain rfl := Option.some.inj h
          intro H v H' hr
          exact appendA_next hr
        · cases h
      · cases h
    · split at h
      · split at h
        · obtain rfl := Option.some.inj h
          intro H v H' hr
          simp only [Sm.run] at hr
          split at hr
          · split at hr
            · exact appendA_next hr
            · cases hr
          · cases hr
        · cases h
      · cases h
  · unfold copySem at h
    split at h
    · cases h
    split at h
    case h_2 => cases h
    split at h
    case h_2 => cases h
    obtain rfl := Option.some.inj h
    intro H v H' hr
    simp only [Sm.run] at hr
    split at hr
    · split at hr
      · cases hr
      · split at hr
        · simp only [Option.some.injEq, Prod.mk.injEq] at hr
          rw [hr.2]; exact Nat.le_refl _
        · split at hr
          · rename_i hw
            simp only [Option.some.injEq, Prod.mk.injEq] at hr
            rw [← hr.2, writeCells_next hw]; exact Nat.le_refl _
          · cases hr
    · cases hr
  · unfold clearSem at h
    split at h
    · cases h
    split at h
    · obtain rfl := Option.some.inj h; exact mono_pure _
    · obtain rfl := Option.some.inj h; exact mono_pure _
    · obtain rfl := Option.some.inj h
      intro H v H' hr
      simp only [Sm.run] at hr
      split at hr
      · simp only [Option.some.injEq, Prod.mk.injEq] at hr
        rw [← hr.2]; simp
      · cases hr
    · split at h
      · obtain rfl := Option.some.inj h; exact mono_pure _
      · split at h
        case h_2 => cases h
        split at h
        · cases h
        obtain rfl := Option.some.inj h
        intro H v H' hr
        simp only [Sm.run] at hr
        split at hr
        · rename_i hw
          simp only [Option.some.injEq, Prod.mk.injEq] at hr
          rw [← hr.2, writeCells_next hw]; exact Nat.le_refl _
        · cases hr
    · cases h
  · unfold deleteSem at h
    split at h
    · cases h
    split at h
    · split at h
      · obtain rfl := Option.some.inj h; exact mono_pure _
      · cases h
    · split at h
      · obtain rfl := Option.some.inj h
        intro H v H' hr
        simp only [Sm.run] at hr
        split at hr
        · split at hr
          · simp only [Option.some.injEq, Prod.mk.injEq] at hr
            rw [← hr.2]; simp
          · simp only [Option.some.injEq, Prod.mk.injEq] at hr
            rw [hr.2]; exact Nat.le_refl _
          · cases hr
        · cases hr
      · cases h
    · cases h
  · unfold lenSem at h
    split at h
    · cases h
    split at h <;> (try (obtain rfl := Option.some.inj h; exact mono_pure _)) <;> (try (cases h; done))
    · obtain rfl := Option.some.inj h; exact mono_read _ _
    · split at h
      · obtain rfl := Option.some.inj h; exact mono_pure _
      · cases h
  · unfold capSem at h
    split at h
    · cases h
    split at h <;> first
      | (obtain rfl := Option.some.inj h; exact mono_pure _)
      | cases h
  · exact mono_map h
  · exact mono_map h
  · cases h

theorem sem_mono {P : Program} {call : CallFn} (hc : CallMono call) {T : List AV} {op : Op} {s : Sm} (h : sem P call T op = some s) : s.Mono := by
  cases op <;> simp only [sem] at h
  case move x => exact mono_map h
  case assign x => exact mono_map h
  case pick c x y =>
    split at h
    · obtain rfl := Option.some.inj h; exact mono_pure _
    · cases h
  case alloc e =>
    cases hz : tzero P e with
    | none => simp [hz] at h
    | some z => simp [hz] at h; subst h; exact mono_alloc _ _
  case box e x =>
    cases hz : ev P T x with
    | none => simp [hz] at h
    | some z => simp [hz] at h; subst h; exact mono_alloc _ _
  case build t parts =>
    split at h
    · exact mono_map h
    · cases h
  case buildSlice t n parts =>
    split at h
    · unfold buildSliceA at h
      split at h
      · split at h
        · split at h
          · cases h
          · split at h
            · obtain rfl := Option.some.inj h; exact mono_alloc _ _
            · cases h
        · cases h
      · cases h
    · cases h
  case load t x =>
    split at h
    · obtain rfl := Option.some.inj h; exact mono_read _ _
    · cases h
  case store t x y =>
    split at h
    · split at h
      · cases h
      · obtain rfl := Option.some.inj h
        intro H v H' hr
        simp only [Sm.run] at hr
        split at hr
        · rename_i hw
          simp only [Option.some.injEq, Prod.mk.injEq] at hr
          rw [← hr.2, writeCells_next hw]; exact Nat.le_refl _
        · cases hr
    · cases h
  case nilCheck x =>
    split at h
    · obtain rfl := Option.some.inj h; exact mono_pure _
    · obtain rfl := Option.some.inj h; exact mono_pure _
    · cases h
  case binOp op t x y ty =>
    split at h
    · exact binSem_mono h
    · cases h
  case unOp op t x =>
    split at h
    · exact mono_map h
    · cases h
  case convert src dst x =>
    split at h
    · exact convSem_mono h
    · cases h
  case sliceToArrayPointer arr x =>
    split at h
    · split at h
      · cases h
      · split at h
        · cases h
        · obtain rfl := Option.some.inj h; exact mono_pure _
    · cases h
  case makeInterface t x =>
    split at h
    · cases h
    · obtain rfl := Option.some.inj h; exact mono_pure _
    · cases h
  case makeFunc fn first captured =>
    split at h
    · obtain rfl := Option.some.inj h; exact mono_pure _
    · cases h
  case makeMap t r =>
    split at h
    · obtain rfl := Option.some.inj h; exact mono_alloc _ _
    · split at h
      · obtain rfl := Option.some.inj h; exact mono_alloc _ _
      · cases h
    · cases h
  case makeSlice t l c =>
    split at h
    · unfold makeSliceSem at h
      split at h
      · split at h
        · split at h
          · obtain rfl := Option.some.inj h; exact mono_alloc _ _
          · cases h
        · cases h
      · cases h
    · cases h
  case slice t x lo hi mx =>
    split at h
    · exact mono_map h
    · cases h
  case fieldAddr st x f =>
    split at h
    · split at h
      · split at h
        · cases h
        · obtain rfl := Option.some.inj h; exact mono_pure _
      · cases h
    · cases h
  case field t x f =>
    split at h
    · split at h
      · exact mono_map h
      · cases h
    · cases h
  case indexAddr t x ix =>
    split at h
    · exact mono_map h
    · cases h
  case index t x ix =>
    split at h
    · exact mono_map h
    · cases h
  case lookup t x k ok =>
    split at h
    · unfold lookupSem at h
      split at h
      · split at h
        · split at h
          · obtain rfl := Option.some.inj h; exact mono_pure _
          · obtain rfl := Option.some.inj h; exact mono_read _ _
          · cases h
        · cases h
      · cases h
    · cases h
  case mapUpdate t m k x =>
    split at h
    · unfold updateSem at h
      split at h
      · split at h
        · obtain rfl := Option.some.inj h
          intro H v H' hr
          simp only [Sm.run] at hr
          split at hr
          · split at hr
            · simp only [Option.some.injEq, Prod.mk.injEq] at hr
              rw [← hr.2]; simp
            · simp only [Option.some.injEq, Prod.mk.injEq] at hr
              rw [← hr.2]; simp
            · cases hr
          · cases hr
        · cases h
      · cases h
    · cases h
  case insert t m k x =>
    split at h
    · unfold updateSem at h
      split at h
      · split at h
        · obtain rfl := Option.some.inj h
          intro H v H' hr
          simp only [Sm.run] at hr
          split at hr
          · split at hr
            · simp only [Option.some.injEq, Prod.mk.injEq] at hr
              rw [← hr.2]; simp
            · simp only [Option.some.injEq, Prod.mk.injEq] at hr
              rw [← hr.2]; simp
            · cases hr
          · cases hr
        · cases h
      · cases h
    · cases h
  case extract t ix =>
    split at h
    · exact mono_map h
    · cases h
  case call c =>
    unfold callSem at h
    split at h
    · cases h
    split at h
    · exact builtinSem_mono h
    · split at h
      · obtain rfl := Option.some.inj h
        intro H v H' hr
        exact hc _ _ _ _ _ hr
      · cases h
    · cases h
  all_goals cases h

theorem runOp_mono {P : Program} {call : CallFn} (hc : CallMono call) {T : List AV} {o : Oper} {H H' : Heap} {v : AV} (h : runOp P call T o H = some (v, H')) : H.next ≤ H'.next := by
  unfold runOp at h
  split at h
  · rename_i s hs
    exact sem_mono hc hs H v H' h
  · cases h

theorem runOps_mono {P : Program} {call : CallFn} (hc : CallMono call) {ops : Array Oper} : ∀ {os : List Oper} {T T' : List AV} {H H' : Heap}, runOps P call ops os T H = some (T', H') → H.next ≤ H'.next
  | [], T, T', H, H', h => by
    simp only [runOps, Option.some.injEq, Prod.mk.injEq] at h
    rw [h.2]; exact Nat.le_refl _
  | o :: os, T, T', H, H', h => by
    simp only [runOps] at h
    split at h
    · split at h
      · rename_i v H1 h1
        exact Nat.le_trans (runOp_mono hc h1) (runOps_mono hc h)
      · cases h
    · exact runOps_mono hc h

theorem dstep_mono {P : Program} {call : CallFn} (hc : CallMono call) {ops : Array Oper} {b : Array Nat} {hv : List Nat} {n0 i : Nat} {s s' : St} (h : dstep P call ops b hv n0 i s = some s') : s.H.next ≤ s'.H.next := by
  unfold dstep at h
  split at h
  · cases h
  split at h
  · split at h
    · split at h
      · rename_i v H1 h1
        obtain rfl := Option.some.inj h
        exact runOp_mono hc h1
      · cases h
    · obtain rfl := Option.some.inj h
      exact Nat.le_refl _
  · split at h
    · rename_i v x _
      obtain rfl := Option.some.inj h
      cases x with
      | none => exact Nat.le_refl _
      | some o => simp [pushO]
    · cases h

theorem drun_mono {P : Program} {call : CallFn} (hc : CallMono call) {ops : Array Oper} {b : Array Nat} {hv : List Nat} {n0 : Nat} : ∀ {is : List Nat} {s s' : St}, drun P call ops b hv n0 is s = some s' → s.H.next ≤ s'.H.next
  | [], s, s', h => by
    simp only [drun, Option.some.injEq] at h
    rw [h]; exact Nat.le_refl _
  | i :: is, s, s', h => by
    simp only [drun] at h
    split at h
    · rename_i s1 h1
      exact Nat.le_trans (dstep_mono hc h1) (drun_mono hc h)
    · cases h

theorem runRegion_mono {P : Program} {call : CallFn} (hc : CallMono call) {ops : Array Oper} {draw : Bool} {T T' : List AV} {H H' : Heap} (h : runRegion P call ops draw T H = some (T', H')) : H.next ≤ H'.next := by
  unfold runRegion at h
  split at h
  · unfold drawRun at h
    split at h
    · split at h
      · rename_i s hs
        simp only [Option.some.injEq, Prod.mk.injEq] at h
        rw [← h.2]
        exact drun_mono hc hs
      · cases h
    · cases h
  · exact runOps_mono hc h

theorem runLoop_mono {f : List AV → Heap → Out} (hf : ∀ T H e T' H', f T H = some (e, T', H') → H.next ≤ H'.next) : ∀ (n : Nat) (T T' : List AV) (H H' : Heap) (e : AX), runLoop f n T H = some (e, T', H') → H.next ≤ H'.next
  | 0, T, T', H, H', e, h => by cases h
  | n + 1, T, T', H, H', e, h => by
    simp only [runLoop] at h
    split at h
    · rename_i T1 H1 h1
      exact Nat.le_trans (hf _ _ _ _ _ h1) (runLoop_mono hf n _ _ _ _ _ h)
    · exact hf _ _ _ _ _ h

theorem runCode_mono {P : Program} {call : CallFn} (hc : CallMono call) {n : Nat} : ∀ (c : Code) (T T' : List AV) (H H' : Heap) (e : AX), runCode P call n c T H = some (e, T', H') → H.next ≤ H'.next := by
  intro c
  induction c with
  | skip => intro T T' H H' e h; simp only [runCode, Option.some.injEq, Prod.mk.injEq] at h; rw [h.2.2]; exact Nat.le_refl _
  | label l => intro T T' H H' e h; simp only [runCode, Option.some.injEq, Prod.mk.injEq] at h; rw [h.2.2]; exact Nat.le_refl _
  | region id ops draw =>
    intro T T' H H' e h
    simp only [runCode] at h
    split at h
    · rename_i T1 H1 h1
      simp only [Option.some.injEq, Prod.mk.injEq] at h
      rw [← h.2.2]
      exact runRegion_mono hc h1
    · cases h
  | seq a b iha ihb =>
    intro T T' H H' e h
    simp only [runCode] at h
    split at h
    · rename_i T1 H1 h1
      exact Nat.le_trans (iha _ _ _ _ _ h1) (ihb _ _ _ _ _ h)
    · exact iha _ _ _ _ _ h
  | cond c x y ihx ihy =>
    intro T T' H H' e h
    simp only [runCode] at h
    split at h
    · exact ihx _ _ _ _ _ h
    · exact ihy _ _ _ _ _ h
    · cases h
  | block id body ih =>
    intro T T' H H' e h
    simp only [runCode] at h
    split at h
    · rename_i id' T1 H1 h1
      split at h
      · simp only [Option.some.injEq, Prod.mk.injEq] at h
        rw [← h.2.2]
        exact ih _ _ _ _ _ h1
      · simp only [Option.some.injEq, Prod.mk.injEq] at h
        rw [← h.2.2]
        exact ih _ _ _ _ _ h1
    · exact ih _ _ _ _ _ h
  | loop body ih =>
    intro T T' H H' e h
    simp only [runCode] at h
    exact runLoop_mono (fun T H e T' H' h => ih T T' H H' e h) n T T' H H' e h
  | exit id => intro T T' H H' e h; simp only [runCode, Option.some.injEq, Prod.mk.injEq] at h; rw [h.2.2]; exact Nat.le_refl _
  | scope body ih => intro T T' H H' e h; simp only [runCode] at h; exact ih _ _ _ _ _ h
  | ret => intro T T' H H' e h; simp only [runCode, Option.some.injEq, Prod.mk.injEq] at h; rw [h.2.2]; exact Nat.le_refl _
  | rangeFunc f ps a b iha ihb => intro T T' H H' e h; simp [runCode] at h
  | goto l => intro T T' H H' e h; simp [runCode] at h
  | refuse why => intro T T' H H' e h; simp [runCode] at h

theorem runBody_mono {P : Program} {call : CallFn} (hc : CallMono call) {n : Nat} {fn : Func} {args : List AV} {H H' : Heap} {v : AV} (h : runBody P call n fn args H = some (v, H')) : H.next ≤ H'.next := by
  unfold runBody at h
  split at h
  · cases h
  split at h
  · rename_i h1
    split at h
    · simp only [Option.some.injEq, Prod.mk.injEq] at h
      rw [← h.2]
      exact runCode_mono hc _ _ _ _ _ _ h1
    · cases h
  · rename_i h1
    split at h
    · simp only [Option.some.injEq, Prod.mk.injEq] at h
      rw [← h.2]
      exact runCode_mono hc _ _ _ _ _ _ h1
    · cases h
  · cases h

def PrimsMono (prims : Prims) : Prop := ∀ f g, prims f = some g → ∀ args H v H', g args H = some (v, H') → H.next ≤ H'.next

theorem acall_mono {P : Program} {prims : Prims} (hp : PrimsMono prims) : ∀ n, CallMono (acall P prims n)
  | 0 => by intro f args H v H' h; cases h
  | n + 1 => by
    intro f args H v H' h
    simp only [acall] at h
    split at h
    · rename_i g hg
      exact hp f g hg _ _ _ _ h
    · split at h
      · exact runBody_mono (acall_mono hp n) h
      · cases h

end Go.Abs

/- A region run in the order of the text: what the abstract machine says, the model does. -/
namespace Go.Abs
set_option linter.unusedVariables false
set_option linter.unusedSimpArgs false

section
variable {P : Program}

theorem VRel.bool_inv {ρ : Map} {v : AV} {b : Bool} (h : VRel ρ v (.bool b)) : v = .bool b := by
  cases v
  case bool c => cases h; rfl
  case int => cases h
  case str => cases h
  case nilFunc => cases h
  case nilIface => cases h
  case ptr o => cases o with
    | none => cases h
    | some o => obtain ⟨p, _, h⟩ := h; cases h
  case slice o n c sl => cases o with
    | none => obtain ⟨_, _, h⟩ := h; cases h
    | some o => obtain ⟨p, x, c', _, h, _⟩ := h; cases h
  case map o => cases o with
    | none => cases h
    | some o => obtain ⟨p, _, _, h⟩ := h; cases h
  case func f xs ys => obtain ⟨us, vs, h, _⟩ := h; cases h
  case iface t x => obtain ⟨y, h, _⟩ := h; cases h
  case agg cs => obtain ⟨ds, h, _⟩ := h; cases h
  case tuple cs => obtain ⟨ds, h, _⟩ := h; cases h

theorem yielded_rel {ρ : Map} {T : List AV} {a : Act} (hf : Frel ρ T a) (ops : Array Oper) (j : Nat) : yieldedA ops T j = yielded ops a.tmps j := by
  unfold yieldedA yielded
  cases ho : ops[j]? with
  | none => simp
  | some o =>
    cases hd : o.dst with
    | none => simp [hd]
    | some d =>
      simp only [hd, Option.bind_some]
      have hl := hf.length
      by_cases ht : d < T.length
      · obtain ⟨v, hv, r⟩ := hf.get d T[d] (by simp [ht])
        have hv' : a.tmps[d]? = some v := by simpa using hv
        rw [hv', List.getElem?_eq_getElem ht]
        cases hb : T[d] <;> rw [hb] at r <;> simp only
        case bool b => cases r; rfl
        all_goals
          split
          · rename_i b heq
            injection heq with heq
            subst heq
            have := r.bool_inv
            cases this
          · rfl
      · have hle : T.length ≤ d := Nat.le_of_not_lt ht
        have h1 : T[d]? = none := List.getElem?_eq_none hle
        have h2 : a.tmps[d]? = none := by rw [← Array.getElem?_toList]; exact List.getElem?_eq_none (by rw [hl]; exact hle)
        rw [h1, h2]

theorem wanted_rel {ρ : Map} {T : List AV} {a : Act} (hf : Frel ρ T a) (ops : Array Oper) (o : Oper) : Region.wanted o (yielded ops a.tmps) = wantedA ops T o := by
  unfold Region.wanted wantedA
  cases o.guard with
  | none => rfl
  | some g => obtain ⟨j, want⟩ := g; simp only [yielded_rel hf]

theorem put_rel {ρ : Map} {T : List AV} {a : Act} (hf : Frel ρ T a) (d : Option Tmp) {v : AV} {u : Value} (h : VRel ρ v u) : Frel ρ (put T d v) (a.put d u) := by
  cases d with
  | none => exact hf
  | some d => simp only [Frel, put, Act.put, Array.toList_setIfInBounds]; exact hf.set d h

theorem put_defers (a : Act) (d : Option Tmp) (v : Value) : (a.put d v).defers = a.defers := by cases d <;> rfl

theorem runOps_sound {call : CallFn} (hcall : CallOk P call) (hmono : CallMono call) {ops : Array Oper} {Q : Exit → Act → World → Prop} : ∀ (os : List Oper) (k : Nat) {T T' : List AV} {H H' : Heap} {ρ : Map} {a : Act} {w : World},
    ops.toList.drop k = os → runOps P call ops os T H = some (T', H') → Sim P.globals.size ρ H w → Frel ρ T a → Wf H → (∀ b, H.next ≤ b → b < H'.next → ρ b = none) →
    (∀ ρ' a' w', Good P.globals.size ρ H w ρ' H' w' → Frel ρ' T' a' → a'.defers = a.defers → Q .normal a' w') → wpOps P ops Q (List.range' k os.length) a w
  | [], k, T, T', H, H', ρ, a, w, hk, h, hs, hf, hwf, hfree, hQ => by
    simp only [runOps, Option.some.injEq, Prod.mk.injEq] at h
    obtain ⟨rfl, rfl⟩ := h
    simp only [List.length_nil, List.range'_zero, wpOps]
    exact hQ ρ a w (Good.refl hs) hf rfl
  | o :: os, k, T, T', H, H', ρ, a, w, hk, h, hs, hf, hwf, hfree, hQ => by
    have hko : ops[k]? = some o := by
      have : (ops.toList.drop k)[0]? = some o := by rw [hk]; rfl
      rw [List.getElem?_drop] at this
      simpa using this
    have hk' : ops.toList.drop (k + 1) = os := by
      rw [← List.drop_drop, hk]; rfl
    simp only [runOps] at h
    simp only [List.length_cons, List.range'_succ, wpOps, hko, wanted_rel hf]
    split at h
    · rename_i hw
      rw [if_pos hw]
      split at h
      · rename_i v H1 h1
        have hm1 := runOp_mono hmono h1
        have hm2 := runOps_mono hmono h
        left
        unfold runOp at h1
        split at h1
        case h_2 => cases h1
        rename_i s hsem
        have hdo := sem_sound hcall hsem hf hs.glob H w v H1 hs h1 (fun b hb hb' => hfree b hb (by omega)) (fun _ _ => hwf)
        refine wp_of_delivers hdo ?_
        rintro u w1 ⟨ρ1, hg, hv⟩
        refine runOps_sound hcall hmono os (k + 1) hk' h hg.sim (put_rel (VRels.mono hg.ext _ _ hf) o.dst hv) (hg.wf hwf) ?_ ?_
        · intro b hb hb'
          rw [hg.out b (by omega)]
          exact hfree b (by omega) hb'
        · intro ρ' a' w' hg' hf' hd'
          exact hQ ρ' a' w' (hg.trans hg') hf' (by rw [hd', put_defers])
      · cases h
    · rename_i hw
      rw [if_neg hw]
      refine runOps_sound hcall hmono os (k + 1) hk' h hs (put_rel hf o.dst (VRel.undef ρ)) hwf hfree ?_
      intro ρ' a' w' hg' hf' hd'
      exact hQ ρ' a' w' hg' hf' (by rw [hd', put_defers])

theorem text_sound {call : CallFn} (hcall : CallOk P call) (hmono : CallMono call) {ops : Array Oper} {id : Nat} {Q : Exit → Act → World → Prop} {T T' : List AV} {H H' : Heap} {ρ : Map} {a : Act} {w : World}
    (h : runOps P call ops ops.toList T H = some (T', H')) (hs : Sim P.globals.size ρ H w) (hf : Frel ρ T a) (hwf : Wf H) (hfree : ∀ b, H.next ≤ b → b < H'.next → ρ b = none)
    (hQ : ∀ ρ' a' w', Good P.globals.size ρ H w ρ' H' w' → Frel ρ' T' a' → a'.defers = a.defers → Q .normal a' w') : (Code.region id ops false).wp P Q a w := by
  refine wp_region ?_
  have := runOps_sound hcall hmono (Q := Q) ops.toList 0 (by simp) h hs hf hwf hfree hQ
  rw [List.range_eq_range']
  simpa using this

end
end Go.Abs

/- A region that draws its order: what hangs on what, in the abstract machine alone. -/
namespace Go.Abs
set_option linter.unusedVariables false
set_option linter.unusedSimpArgs false

/-! ## an operation's meaning hangs on its operands -/
section
variable {P : Program} {call : CallFn}

theorem mapOpt_congr {α β : Type} {f g : α → Option β} : ∀ {l : List α}, (∀ x ∈ l, f x = g x) → mapOpt f l = mapOpt g l
  | [], _ => rfl
  | x :: xs, h => by simp only [mapOpt, h x (by simp), mapOpt_congr (l := xs) (fun y hy => h y (by simp [hy]))]

theorem evParts_congr {T T2 : List AV} : ∀ {l : List (Nat × Operand)}, (∀ x ∈ l, ev P T x.2 = ev P T2 x.2) → evParts P T l = evParts P T2 l
  | [], _ => rfl
  | (i, x) :: r, h => by
    have h1 := h (i, x) (by simp)
    simp only at h1
    simp only [evParts, h1, evParts_congr (l := r) (fun y hy => h y (by simp [hy]))]

theorem evOpt_congr {T T2 : List AV} {x : Option Operand} (h : ∀ y, x = some y → ev P T y = ev P T2 y) : evOpt P T x = evOpt P T2 x := by
  cases x with
  | none => rfl
  | some y => simp only [evOpt, h y rfl]

theorem callSem_congr {T T2 : List AV} {c : Call} (h : ∀ x ∈ c.operands, ev P T x = ev P T2 x) : callSem P call T c = callSem P call T2 c := by
  have h1 : mapOpt (ev P T) c.args.toList = mapOpt (ev P T2) c.args.toList := mapOpt_congr fun x hx => h x (by simp [Call.operands]; right; simpa using hx)
  unfold callSem
  rw [h1]
  cases hc : c.callee with
  | builtin b => rfl
  | invoke r m => rfl
  | value f =>
    have : ev P T f = ev P T2 f := h f (by simp [Call.operands, hc])
    simp only [this]

theorem sem_congr {T T2 : List AV} {op : Op} (h : ∀ x ∈ op.operands, ev P T x = ev P T2 x) : sem P call T op = sem P call T2 op := by
  cases op <;> simp only [Op.operands] at h <;> simp only [sem]
  case build t ps => rw [evParts_congr fun x hx => h x.2 (by simp; exact ⟨x.1, by simpa using hx⟩)]
  case buildSlice t n ps => rw [evParts_congr fun x hx => h x.2 (by simp; exact ⟨x.1, by simpa using hx⟩)]
  case makeFunc fn first captured =>
    rw [mapOpt_congr fun x hx => h x (by simp; left; simpa using hx), mapOpt_congr (l := captured.toList) fun x hx => h x (by simp; right; simpa using hx)]
  case call c => exact callSem_congr h
  case makeMap t r =>
    cases r with
    | none => cases P.underlying t with
      | none => rfl
      | some d => cases d <;> rfl
    | some x =>
      have h1 := h x (by simp)
      cases P.underlying t with
      | none => rfl
      | some d => cases d <;> first
        | rfl
        | simp only [h1]
  case slice t x lo hi mx =>
    rw [h x (by simp), evOpt_congr (x := lo) fun y hy => h y (by simp [hy]), evOpt_congr (x := hi) fun y hy => h y (by simp [hy]), evOpt_congr (x := mx) fun y hy => h y (by simp [hy])]
  all_goals first
    | rfl
    | (simp_all; done)

theorem wanted_congr {ops : Array Oper} {T T2 : List AV} {o : Oper} (h : ∀ t ∈ o.looksAt ops, T[t]? = T2[t]?) : wantedA ops T o = wantedA ops T2 o := by
  unfold wantedA
  cases hg : o.guard with
  | none => rfl
  | some q =>
    obtain ⟨j, want⟩ := q
    simp only
    have : yieldedA ops T j = yieldedA ops T2 j := by
      unfold yieldedA
      cases ho : ops[j]? with
      | none => rfl
      | some p =>
        cases hd : p.dst with
        | none => simp only [hd]
        | some d =>
          simp only [hd]
          rw [h d (by simp [Oper.looksAt, hg, ho, hd])]
    rw [this]

theorem ev_congr {ops : Array Oper} {T T2 : List AV} {o : Oper} (h : ∀ t ∈ o.looksAt ops, T[t]? = T2[t]?) : ∀ x ∈ o.op.operands, ev P T x = ev P T2 x := by
  intro x hx
  cases x with
  | tmp t =>
    have := h t (by simp only [Oper.looksAt, List.mem_append, List.mem_filterMap]; exact .inl ⟨.tmp t, by simpa using hx, rfl⟩)
    simp only [ev, List.getD_eq_getElem?_getD, this]
  | const c => rfl
  | global g => rfl
  | func f => rfl

/-- What is read lies somewhere. -/
theorem reads_placed {T : List AV} {op : Op} {bs : List Nat} {k : List AObj → Option AV} {ρ : Map} {a : Act} (h : sem P call T op = some (.read bs k)) (hf : Frel ρ T a) (hg : Glob P ρ) :
    ∀ b ∈ bs, ∃ p, ρ b = some p := by
  have one : ∀ {v : AV} {s : Sm}, (∀ x, s ≠ .pure x) → True := fun _ => trivial
  have nomap : ∀ {o : Option AV}, o.map Sm.pure = some (.read bs k) → False := by intro o h; cases o <;> cases h
  cases op <;> simp only [sem] at h
  case load t x =>
    split at h
    · rename_i b o g n hx _ _
      injection h with h; injection h with h1 h2
      subst h1
      obtain ⟨p, hp, _⟩ := ev_rel hf hg hx
      intro c hc
      simp at hc; subst hc
      exact ⟨p, hp⟩
    · cases h
  case binOp op t x y ty =>
    split at h
    case h_2 => cases h
    rename_i vx vy hx hy
    have key : ∀ neg, eqSem P t vx vy neg = some (.read bs k) → ∀ b ∈ bs, ∃ p, ρ b = some p := by
      intro neg h
      unfold eqSem at h
      split at h <;> (try (cases h; done))
      · rename_i e q1 q2 hd
        split at h
        · cases h
        · split at h
          · cases h
          · injection h with h; injection h with h1 h2
            subst h1
            obtain ⟨p, hp, _⟩ := ev_rel hf hg hx
            obtain ⟨q, hq, _⟩ := ev_rel hf hg hy
            intro c hc
            simp at hc
            rcases hc with rfl | rfl
            · exact ⟨p, hp⟩
            · exact ⟨q, hq⟩
      all_goals
        split at h
        · cases h
        · split at h <;> cases h
    unfold binSem at h
    split at h
    · exact (nomap h).elim
    · exact (nomap h).elim
    · split at h
      · exact (nomap h).elim
      · cases h
    · exact (nomap h).elim
    · split at h <;> cases h
    · split at h <;> cases h
    · exact key _ h
    · exact key _ h
    · cases h
  case convert src dst x =>
    split at h
    case h_2 => cases h
    rename_i vx hx
    unfold convSem at h
    split at h <;> (try (cases h; done))
    · split at h
      · split at h <;> cases h
      · cases h
    · split at h
      · split at h <;> cases h
      · cases h
    · split at h
      · cases h
      · rename_i b o _
        injection h with h; injection h with h1 h2
        subst h1
        obtain ⟨p, y, c', hp, _⟩ := ev_rel hf hg hx
        intro c hc
        simp at hc; subst hc
        exact ⟨p, hp⟩
      · cases h
  case lookup t x kk ok =>
    split at h
    case h_2 => cases h
    rename_i vx vk hx hk
    unfold lookupSem at h
    split at h
    · split at h
      · split at h
        · cases h
        · rename_i r _
          injection h with h; injection h with h1 h2
          subst h1
          obtain ⟨p, hp, _⟩ := ev_rel hf hg hx
          intro c hc
          simp at hc; subst hc
          exact ⟨p, hp⟩
        · cases h
      · cases h
    · cases h
  case call c =>
    unfold callSem at h
    split at h
    · cases h
    rename_i args hargs
    have hrel := evs_rel hf hg hargs
    split at h
    · unfold builtinSem at h
      split at h
      · unfold appendSem at h
        (repeat' split at h) <;> cases h
      · unfold copySem at h
        (repeat' split at h) <;> cases h
      · unfold clearSem at h
        (repeat' split at h) <;> cases h
      · unfold deleteSem at h
        (repeat' split at h) <;> cases h
      · rename_i x
        unfold lenSem at h
        split at h
        · cases h
        split at h <;> (try (cases h; done))
        · injection h with h; injection h with h1 h2
          subst h1
          obtain ⟨u, l, _, hu, _⟩ := hrel
          obtain ⟨p, hp, _⟩ := hu
          intro c hc
          simp at hc; subst hc
          exact ⟨p, hp⟩
        · split at h <;> cases h
      · unfold capSem at h
        (repeat' split at h) <;> cases h
      · exact (nomap h).elim
      · exact (nomap h).elim
      · cases h
    · split at h <;> cases h
    · cases h
  case buildSlice t n ps =>
    split at h
    · unfold buildSliceA at h
      (repeat' split at h) <;> cases h
    · cases h
  case makeSlice t l c =>
    split at h
    · unfold makeSliceSem at h
      (repeat' split at h) <;> cases h
    · cases h
  case alloc e => cases hz : tzero P e <;> simp [hz] at h
  case box e x => cases hz : ev P T x <;> simp [hz] at h
  case mapUpdate t m kk x =>
    split at h
    · unfold updateSem at h
      (repeat' split at h) <;> cases h
    · cases h
  case insert t m kk x =>
    split at h
    · unfold updateSem at h
      (repeat' split at h) <;> cases h
    · cases h
  all_goals first
    | exact (nomap h).elim
    | cases h
    | (split at h <;> first
        | exact (nomap h).elim
        | cases h
        | (split at h <;> first
            | exact (nomap h).elim
            | cases h
            | (split at h <;> first
                | exact (nomap h).elim
                | cases h)))

end

/-! ## bits -/
theorem foldl_bits {b : Array Nat} {k : Nat} : ∀ {l : List Nat} {s : Nat}, (l.foldl (fun s j => s ||| 2 ^ j ||| b.getD j 0) s).testBit k = true → s.testBit k = true ∨ ∃ j ∈ l, j = k ∨ (b.getD j 0).testBit k = true
  | [], s, h => .inl h
  | j :: l, s, h => by
    simp only [List.foldl_cons] at h
    rcases foldl_bits h with h | ⟨x, hx, hr⟩
    · simp only [Nat.testBit_or, Bool.or_eq_true] at h
      rcases h with (h | h) | h
      · exact .inl h
      · rw [Nat.testBit_two_pow] at h
        exact .inr ⟨j, by simp, .inl (by simpa using h)⟩
      · exact .inr ⟨j, by simp, .inr h⟩
    · exact .inr ⟨x, by simp [hx], hr⟩

theorem mem_zipIdx {α : Type} {l : List α} {i : Nat} {x : α} (h : l[i]? = some x) : (x, i) ∈ l.zipIdx := by
  rw [List.mem_zipIdx_iff_getElem?]
  exact h

/-- What must come ahead of an operation is an edge, or ahead of one. -/
theorem closed_bits {ops : Array Oper} {b : Array Nat} (h : closedOk ops b = true) {i k : Nat} {o : Oper} (ho : ops[i]? = some o) (hb : (b.getD i 0).testBit k = true) :
    ∃ j ∈ preds o, j = k ∨ (b.getD j 0).testBit k = true := by
  unfold closedOk at h
  rw [List.all_eq_true] at h
  have := h (o, i) (mem_zipIdx (by simpa using ho))
  simp only [beq_iff_eq] at this
  rw [this] at hb
  rcases foldl_bits hb with h | h
  · simp at h
  · exact h

theorem edges_lt {ops : Array Oper} (h : edgesOk ops = true) {i : Nat} {o : Oper} (ho : ops[i]? = some o) : ∀ k ∈ preds o, k < i := by
  unfold edgesOk at h
  rw [List.all_eq_true] at h
  have := h (o, i) (mem_zipIdx (by simpa using ho))
  simp only [List.all_eq_true, decide_eq_true_eq] at this
  exact this

theorem looks_apart {ops : Array Oper} {b : Array Nat} (h : looksOk ops b = true) {i j : Nat} {o p : Oper} {d : Tmp} (ho : ops[i]? = some o) (hp : ops[j]? = some p) (hne : i ≠ j) (hd : p.dst = some d) (hl : d ∈ o.looksAt ops) :
    (b.getD i 0).testBit j = true ∨ (b.getD j 0).testBit i = true := by
  unfold looksOk at h
  rw [List.all_eq_true] at h
  have h1 := h (o, i) (mem_zipIdx (by simpa using ho))
  simp only [List.all_eq_true] at h1
  have h2 := h1 (p, j) (mem_zipIdx (by simpa using hp))
  simp only [hd, Bool.or_eq_true, beq_iff_eq, Bool.not_eq_true'] at h2
  rcases h2 with h2 | (h2 | h2) | h2
  · exact absurd h2 hne
  · simp [List.contains_iff_mem, hl] at h2
  · exact .inl h2
  · exact .inr h2

theorem nodupB_ok : ∀ {l : List Nat}, nodupB l = true → l.Nodup
  | [], _ => List.nodup_nil
  | x :: xs, h => by
    simp only [nodupB, Bool.and_eq_true, Bool.not_eq_true', List.contains_eq_mem, decide_eq_false_iff_not] at h
    exact List.nodup_cons.2 ⟨h.1, nodupB_ok h.2⟩

/-- Two operations write to different places. -/
theorem dst_ne : ∀ {l : List Oper} {i j : Nat} {o p : Oper} {d : Tmp}, (dstsOf l).Nodup → l[i]? = some o → l[j]? = some p → o.dst = some d → p.dst = some d → i = j
  | [], i, j, o, p, d, h, hi, hj, ho, hp => by simp at hi
  | x :: xs, i, j, o, p, d, h, hi, hj, ho, hp => by
    have mem : ∀ {k : Nat} {q : Oper}, xs[k]? = some q → q.dst = some d → d ∈ dstsOf xs := by
      intro k q hk hq
      exact List.mem_filterMap.2 ⟨q, List.mem_of_getElem? hk, hq⟩
    cases i with
    | zero =>
      simp at hi; subst hi
      cases j with
      | zero => rfl
      | succ j =>
        simp at hj
        have hm := mem hj hp
        simp only [dstsOf, List.filterMap_cons, ho] at h
        exact absurd hm (List.nodup_cons.1 h).1
    | succ i =>
      simp at hi
      cases j with
      | zero =>
        simp at hj; subst hj
        have hm := mem hi ho
        simp only [dstsOf, List.filterMap_cons, hp] at h
        exact absurd hm (List.nodup_cons.1 h).1
      | succ j =>
        simp at hj
        have h' : (dstsOf xs).Nodup := by
          simp only [dstsOf, List.filterMap_cons] at h
          cases hx : x.dst with
          | none => show (List.filterMap (fun x => x.dst) xs).Nodup; simpa [hx] using h
          | some y => rw [hx] at h; exact (List.nodup_cons.1 h).2
        rw [dst_ne h' hi hj ho hp]

/-! ## the order -/
theorem canon_spec {P : Program} {ops : Array Oper} {b : Array Nat} : ∀ {c : List Nat} {done : Nat}, canonOk P ops b c done = true → ∀ {pre : List Nat} {i : Nat} {post : List Nat}, c = pre ++ i :: post →
    (∃ o, ops[i]? = some o) ∧ (∀ k, (b.getD i 0).testBit k = true → done.testBit k = true ∨ k ∈ pre) ∧ (∀ o, ops[i]? = some o → isHeavy P o.op = true → ∀ k, (done.testBit k = true ∨ k ∈ pre) → (b.getD i 0).testBit k = true)
  | [], done, h, pre, i, post, e => by simp at e
  | x :: xs, done, h, pre, i, post, e => by
    simp only [canonOk, Bool.and_eq_true] at h
    obtain ⟨⟨h1, h2⟩, h3⟩ := h
    cases pre with
    | nil =>
      simp only [List.nil_append, List.cons.injEq] at e
      obtain ⟨rfl, rfl⟩ := e
      cases ho : ops[x]? with
      | none => simp [ho] at h2
      | some o =>
        refine ⟨⟨o, rfl⟩, fun k hk => .inl ?_, ?_⟩
        · simp only [beq_iff_eq] at h1
          rw [← h1, Nat.testBit_or, hk]; rfl
        · intro o' ho' hh k hk
          injection ho' with ho'; subst ho'
          simp only [ho, hh, Bool.not_true, Bool.false_or, beq_iff_eq] at h2
          rcases hk with hk | hk
          · rw [← h2, Nat.testBit_or, hk]; rfl
          · simp at hk
    | cons y ys =>
      simp only [List.cons_append, List.cons.injEq] at e
      obtain ⟨rfl, e⟩ := e
      obtain ⟨g1, g2, g3⟩ := canon_spec h3 e
      have hbit : ∀ k, (done ||| 2 ^ x).testBit k = true ↔ (done.testBit k = true ∨ k = x) := by
        intro k
        rw [Nat.testBit_or, Nat.testBit_two_pow]
        simp only [Bool.or_eq_true, decide_eq_true_eq]
        exact ⟨fun h => h.imp id Eq.symm, fun h => h.imp id Eq.symm⟩
      refine ⟨g1, fun k hk => ?_, fun o ho hh k hk => g3 o ho hh k ?_⟩
      · rcases g2 k hk with h | h
        · rcases (hbit k).1 h with h | rfl
          · exact .inl h
          · exact .inr (by simp)
        · exact .inr (by simp [h])
      · rcases hk with h | h
        · exact .inl ((hbit k).2 (.inl h))
        · simp only [List.mem_cons] at h
          rcases h with rfl | h
          · exact .inl ((hbit _).2 (.inr rfl))
          · exact .inr h

end Go.Abs

/- A region that draws its order: the machine's own order, and operations done early. -/
namespace Go.Abs
set_option linter.unusedVariables false
set_option linter.unusedSimpArgs false

/-- An operation that the world has done, and the abstract machine has not come to yet. -/
structure En where
  idx : Nat
  val : AV
  al : Option (Nat × AObj)

def dstOf (ops : Array Oper) (i : Nat) : Option Tmp := (ops[i]?).bind (·.dst)

def addT (ops : Array Oper) : List En → List AV → List AV
  | [], T => T
  | e :: r, T => put (addT ops r T) (dstOf ops e.idx) e.val

def addH : List En → Heap → Heap
  | [], H => H
  | e :: r, H => match e.al with
    | none => addH r H
    | some (id, o) => (addH r H).set id o

theorem length_put (T : List AV) (d : Option Tmp) (v : AV) : (put T d v).length = T.length := by cases d <;> simp [put]

theorem length_addT (ops : Array Oper) : ∀ (E : List En) (T : List AV), (addT ops E T).length = T.length
  | [], T => rfl
  | e :: r, T => by simp [addT, length_put, length_addT ops r T]

theorem put_get_ne {T : List AV} {d : Option Tmp} {v : AV} {t : Nat} (h : d ≠ some t) : (put T d v)[t]? = T[t]? := by
  cases d with
  | none => rfl
  | some d => simp only [put]; rw [List.getElem?_set_ne]; rintro rfl; exact h rfl

theorem put_get_eq {T : List AV} {v : AV} {t : Nat} (h : t < T.length) : (put T (some t) v)[t]? = some v := by simp [put, h]

theorem addT_other {ops : Array Oper} {T : List AV} {t : Nat} : ∀ {E : List En}, (∀ e ∈ E, dstOf ops e.idx ≠ some t) → (addT ops E T)[t]? = T[t]?
  | [], _ => rfl
  | e :: r, h => by
    simp only [addT]
    rw [put_get_ne (h e (by simp)), addT_other fun x hx => h x (by simp [hx])]

theorem addT_mem {ops : Array Oper} {T : List AV} {t : Nat} (ht : t < T.length) (hd : (dstsOf ops.toList).Nodup) : ∀ {E : List En} {e : En}, (E.map (·.idx)).Nodup → e ∈ E → dstOf ops e.idx = some t → (addT ops E T)[t]? = some e.val
  | [], e, _, h, _ => by cases h
  | x :: r, e, hn, h, hdst => by
    simp only [List.map_cons, List.nodup_cons] at hn
    simp only [addT]
    by_cases hx : dstOf ops x.idx = some t
    · have : x.idx = e.idx := by
        unfold dstOf at hx hdst
        cases h1 : ops[x.idx]? with
        | none => simp [h1] at hx
        | some o1 =>
          cases h2 : ops[e.idx]? with
          | none => simp [h2] at hdst
          | some o2 =>
            simp only [h1, Option.bind_some] at hx
            simp only [h2, Option.bind_some] at hdst
            exact dst_ne hd (by simpa using h1) (by simpa using h2) hx hdst
      have hex : e = x := by
        simp only [List.mem_cons] at h
        rcases h with h | h
        · exact h
        · exact absurd (List.mem_map.2 ⟨e, h, this.symm⟩) hn.1
      subst hex
      rw [hx]
      exact put_get_eq (by rw [length_addT]; exact ht)
    · rw [put_get_ne hx]
      simp only [List.mem_cons] at h
      rcases h with h | h
      · subst h; exact absurd hdst hx
      · exact addT_mem ht hd hn.2 h hdst

@[simp] theorem next_addH : ∀ (E : List En) (H : Heap), (addH E H).next = H.next
  | [], H => rfl
  | e :: r, H => by
    simp only [addH]
    split
    · exact next_addH r H
    · simp [next_addH r H]

theorem addH_other {H : Heap} {b : Nat} : ∀ {E : List En}, (∀ e ∈ E, ∀ o, e.al ≠ some (b, o)) → (addH E H).get b = H.get b
  | [], _ => rfl
  | e :: r, h => by
    simp only [addH]
    split
    · exact addH_other fun x hx => h x (by simp [hx])
    · rename_i id o he
      rw [Heap.get_set, if_neg (by rintro rfl; exact h e (by simp) o he), addH_other fun x hx => h x (by simp [hx])]

/-- No two of them made one block. -/
def IdsApart (E : List En) : Prop := ∀ e ∈ E, ∀ e' ∈ E, ∀ b o o', e.al = some (b, o) → e'.al = some (b, o') → e = e'

theorem addH_mem {H : Heap} {b : Nat} {o : AObj} : ∀ {E : List En} {e : En}, IdsApart E → e ∈ E → e.al = some (b, o) → (addH E H).get b = some o
  | [], e, _, h, _ => by cases h
  | x :: r, e, ha, h, he => by
    simp only [addH]
    by_cases hx : ∃ o', x.al = some (b, o')
    · obtain ⟨o', hx⟩ := hx
      have := ha e h x (by simp) b o o' he hx
      subst this
      rw [he] at hx
      injection hx with hx; injection hx with _ hx; subst hx
      rw [he]
      simp only [Heap.get_set_same]
    · have hr : e ∈ r := by
        simp only [List.mem_cons] at h
        rcases h with rfl | h
        · exact absurd ⟨o, he⟩ hx
        · exact h
      have ih := addH_mem (E := r) (fun y hy z hz => ha y (by simp [hy]) z (by simp [hz])) hr he (H := H)
      split
      · exact ih
      · rename_i id o1 hx1
        rw [Heap.get_set, if_neg (by rintro rfl; exact hx ⟨_, hx1⟩)]
        exact ih

section
variable {P : Program} {call : CallFn} {ops : Array Oper} {b : Array Nat} {hv : List Nat} {n0 : Nat}

theorem drun_append : ∀ {l m : List Nat} {s s' : St}, drun P call ops b hv n0 (l ++ m) s = some s' → ∃ s1, drun P call ops b hv n0 l s = some s1 ∧ drun P call ops b hv n0 m s1 = some s'
  | [], m, s, s', h => ⟨s, rfl, h⟩
  | i :: l, m, s, s', h => by
    simp only [List.cons_append, drun] at h
    cases h1 : dstep P call ops b hv n0 i s with
    | none => simp [h1] at h
    | some s2 =>
      simp only [h1] at h
      obtain ⟨s1, h2, h3⟩ := drun_append h
      exact ⟨s1, by simp only [drun, h1]; exact h2, h3⟩

theorem dstep_T {i : Nat} {s s' : St} (h : dstep P call ops b hv n0 i s = some s') : ∃ v, s'.T = put s.T (dstOf ops i) v := by
  unfold dstep at h
  cases ho : ops[i]? with
  | none => simp [ho] at h
  | some o =>
    simp only [ho] at h
    have hd : dstOf ops i = o.dst := by simp [dstOf, ho]
    rw [hd]
    split at h
    · split at h
      · split at h
        · rename_i v H1 _
          obtain rfl := Option.some.inj h
          exact ⟨v, rfl⟩
        · cases h
      · obtain rfl := Option.some.inj h
        exact ⟨_, rfl⟩
    · split at h
      · rename_i v x _
        obtain rfl := Option.some.inj h
        exact ⟨v, rfl⟩
      · cases h

theorem drun_length : ∀ {l : List Nat} {s s' : St}, drun P call ops b hv n0 l s = some s' → s'.T.length = s.T.length
  | [], s, s', h => by simp only [drun, Option.some.injEq] at h; rw [h]
  | i :: l, s, s', h => by
    simp only [drun] at h
    cases h1 : dstep P call ops b hv n0 i s with
    | none => simp [h1] at h
    | some s2 =>
      simp only [h1] at h
      obtain ⟨v, hT⟩ := dstep_T h1
      rw [drun_length h, hT, length_put]

theorem drun_T_other {t : Nat} : ∀ {l : List Nat} {s s' : St}, drun P call ops b hv n0 l s = some s' → (∀ j ∈ l, dstOf ops j ≠ some t) → s'.T[t]? = s.T[t]?
  | [], s, s', h, _ => by simp only [drun, Option.some.injEq] at h; rw [h]
  | i :: l, s, s', h, hn => by
    simp only [drun] at h
    cases h1 : dstep P call ops b hv n0 i s with
    | none => simp [h1] at h
    | some s2 =>
      simp only [h1] at h
      obtain ⟨v, hT⟩ := dstep_T h1
      rw [drun_T_other h fun j hj => hn j (by simp [hj]), hT, put_get_ne (hn i (by simp))]

/-- A light operation's step. -/
theorem dstep_light {i : Nat} {o : Oper} {s s' : St} (ho : ops[i]? = some o) (hl : isHeavy P o.op = false) (h : dstep P call ops b hv n0 i s = some s') :
    ∃ v x, lightRes P call ops b hv n0 i o s = some (v, x) ∧ s' = { T := put s.T o.dst v, H := pushO s.H x, snaps := s.snaps } := by
  unfold dstep at h
  simp only [ho, hl, Bool.false_eq_true, if_false] at h
  split at h
  · rename_i v x hr
    obtain rfl := Option.some.inj h
    exact ⟨v, x, hr, rfl⟩
  · cases h

theorem split_unique {c : List Nat} (hn : c.Nodup) {p1 p2 q1 q2 : List Nat} {i : Nat} (h1 : c = p1 ++ i :: q1) (h2 : c = p2 ++ i :: q2) : p1 = p2 ∧ q1 = q2 := by
  subst h1
  induction p1 generalizing p2 with
  | nil =>
    cases p2 with
    | nil => simp at h2; exact ⟨rfl, h2⟩
    | cons x xs =>
      simp only [List.nil_append, List.cons_append, List.cons.injEq] at h2
      obtain ⟨rfl, h2⟩ := h2
      simp only [List.nil_append, List.nodup_cons] at hn
      rw [h2] at hn
      exact absurd (by simp) hn.1
  | cons y ys ih =>
    cases p2 with
    | nil =>
      simp only [List.cons_append, List.nil_append, List.cons.injEq] at h2
      obtain ⟨rfl, h2⟩ := h2
      simp only [List.cons_append, List.nodup_cons] at hn
      exact absurd (by simp) hn.1
    | cons x xs =>
      simp only [List.cons_append, List.cons.injEq] at h2
      obtain ⟨rfl, h2⟩ := h2
      simp only [List.cons_append, List.nodup_cons] at hn
      obtain ⟨e1, e2⟩ := ih hn.2 h2
      exact ⟨by rw [e1], e2⟩

/-- What became of an operation that was done early, where the abstract machine comes to it. -/
def Wit (P : Program) (call : CallFn) (ops : Array Oper) (b : Array Nat) (hv : List Nat) (n0 : Nat) (c : List Nat) (s : St) (e : En) : Prop :=
  ∃ pre post si o x, c = pre ++ e.idx :: post ∧ drun P call ops b hv n0 pre s = some si ∧ ops[e.idx]? = some o ∧ isHeavy P o.op = false ∧
    lightRes P call ops b hv n0 e.idx o si = some (e.val, x) ∧ e.al = x.map fun y => (si.H.next, y)

theorem Wit.ids {hmono : CallMono call} {c : List Nat} {s : St} (hn : c.Nodup) {e e' : En} (h : Wit P call ops b hv n0 c s e) (h' : Wit P call ops b hv n0 c s e') {id : Nat} {o o' : AObj}
    (he : e.al = some (id, o)) (he' : e'.al = some (id, o')) (hrun : ∃ sf, drun P call ops b hv n0 c s = some sf) : e.idx = e'.idx := by
  obtain ⟨pre, post, si, op, x, hc, hd, ho, hl, hr, ha⟩ := h
  obtain ⟨pre', post', si', op', x', hc', hd', ho', hl', hr', ha'⟩ := h'
  cases x with
  | none => rw [ha] at he; cases he
  | some y =>
    cases x' with
    | none => rw [ha'] at he'; cases he'
    | some y' =>
      rw [ha] at he; rw [ha'] at he'
      simp only [Option.map_some, Option.some.injEq, Prod.mk.injEq] at he he'
      obtain ⟨e1, _⟩ := he
      obtain ⟨e2, _⟩ := he'
      -- one of the two comes first
      have key : ∀ {p q p' q' : List Nat} {i j : Nat} {t t' : St} {oi : Oper} {v : AV} {z : AObj}, c = p ++ i :: q → c = p' ++ j :: q' → p.length < p'.length → drun P call ops b hv n0 p s = some t → drun P call ops b hv n0 p' s = some t' →
          ops[i]? = some oi → isHeavy P oi.op = false → lightRes P call ops b hv n0 i oi t = some (v, some z) → t.H.next < t'.H.next := by
        intro p q p' q' i j t t' oi v z h1 h2 hlt ht ht' hoi hli hri
        have : ∃ r, p' = p ++ i :: r := by
          have e : p ++ i :: q = p' ++ j :: q' := h1.symm.trans h2
          have := List.append_eq_append_iff.1 e
          rcases this with ⟨r, hr1, hr2⟩ | ⟨r, hr1, hr2⟩
          · cases r with
            | nil => simp at hr1; rw [hr1] at hlt; omega
            | cons z zs =>
              simp only [List.cons_append, List.cons.injEq] at hr2
              obtain ⟨rfl, _⟩ := hr2
              exact ⟨zs, hr1⟩
          · rw [hr1] at hlt; simp at hlt; omega
        obtain ⟨r, rfl⟩ := this
        obtain ⟨t1, g1, g2⟩ := drun_append ht'
        rw [ht] at g1; injection g1 with g1; subst g1
        simp only [drun] at g2
        cases hst : dstep P call ops b hv n0 i t with
        | none => simp [hst] at g2
        | some t2 =>
          simp only [hst] at g2
          obtain ⟨v2, x2, hr2, rfl⟩ := dstep_light hoi hli hst
          rw [hri] at hr2
          injection hr2 with hr2; injection hr2 with _ hr2; subst hr2
          have := drun_mono hmono g2
          simp [pushO] at this
          omega
      rcases Nat.lt_trichotomy pre.length pre'.length with hlt | heq | hgt
      · have := key hc hc' hlt hd hd' ho hl hr; omega
      · have e : pre ++ e.idx :: post = pre' ++ e'.idx :: post' := hc.symm.trans hc'
        have := List.append_inj e heq
        injection this.2
      · have := key hc' hc hgt hd' hd ho' hl' hr'; omega

end
end Go.Abs

/- A region that draws its order: whatever order is drawn, the world comes to what the abstract machine says. -/
namespace Go.Abs
set_option linter.unusedVariables false
set_option linter.unusedSimpArgs false

section
variable (P : Program) (call : CallFn) (ops : Array Oper) (b : Array Nat) (hv : List Nat) (n0 : Nat)

/-- What does not change while a region is run. -/
structure Fix : Prop where
  hcall : CallOk P call
  hmono : CallMono call
  edges : edgesOk ops = true
  closed : closedOk ops b = true
  dsts : (dstsOf ops.toList).Nodup
  looks : looksOk ops b = true
  hvs : ∀ h, h ∈ hv ↔ ∃ o, ops[h]? = some o ∧ isHeavy P o.op = true
  hvn : hv.Nodup

structure Inv (ρ0 : Map) (H0 : Heap) (w0 : World) (a0 : Act) (sf : St) (c : List Nat) (s : St) (E : List En) (ls : Array Bool) (ρ : Map) (a : Act) (w : World) : Prop where
  run : drun P call ops b hv n0 c s = some sf
  sim : Sim P.globals.size ρ (addH E s.H) w
  free : ∀ x, s.H.next ≤ x → x < sf.H.next → (∀ e ∈ E, ∀ o, e.al ≠ some (x, o)) → ρ x = none
  frel : Frel ρ (addT ops E s.T) a
  wit : ∀ e ∈ E, Wit P call ops b hv n0 c s e
  nodupE : (E.map (·.idx)).Nodup
  nodupC : c.Nodup
  inC : ∀ i ∈ c, i < ops.size
  lsize : ls.size = ops.size
  listed : ∀ i, i < ops.size → (ls.getD i true = true ↔ (i ∉ c ∨ ∃ e ∈ E, e.idx = i))
  done : ∀ i, i < ops.size → ls.getD i true = true → ∀ k, (b.getD i 0).testBit k = true → k ∈ c → ∃ e ∈ E, e.idx = k
  p2 : ∀ pre i post, c = pre ++ i :: post → ∀ k, (b.getD i 0).testBit k = true → k ∉ i :: post
  p1 : ∀ pre i post o, c = pre ++ i :: post → ops[i]? = some o → isHeavy P o.op = true → ∀ k ∈ pre, (b.getD i 0).testBit k = true
  snap : ∃ S r, s.snaps = S :: r ∧ ∀ x y, S.get x = some y → s.H.get x = some y
  cnt : s.snaps.length = 1 + (hv.filter fun h => decide (h ∉ c)).length
  base : n0 ≤ s.H.next
  n0eq : n0 = H0.next
  bd : Wf s.H
  ext : Ext ρ0 ρ
  out : ∀ x, (x < H0.next ∨ sf.H.next ≤ x) → ρ x = ρ0 x
  dom : ∀ x, H0.get x = none → (x < H0.next ∨ sf.H.next ≤ x) → (addH E s.H).get x = none
  ro : ∀ x o, (addH E s.H).get x = some o → o.live = true → o.own = false → H0.get x = some o
  kp : Keeps ρ0 H0 w0 ρ (addH E s.H) w
  dfr : a.defers = a0.defers

end

section
variable {P : Program} {call : CallFn} {ops : Array Oper} {b : Array Nat} {hv : List Nat} {n0 : Nat}
variable {ρ0 : Map} {H0 : Heap} {w0 : World} {a0 : Act} {sf : St}

theorem Inv.idsApart (hx : Fix P call ops b hv) {c : List Nat} {s : St} {E : List En} {listed : Array Bool} {ρ : Map} {a : Act} {w : World} (h : Inv P call ops b hv n0 ρ0 H0 w0 a0 sf c s E listed ρ a w) : IdsApart E := by
  intro e he e' he' id o o' h1 h2
  have hi := Wit.ids (hmono := hx.hmono) h.nodupC (h.wit e he) (h.wit e' he') h1 h2 ⟨sf, h.run⟩
  -- one number, one entry
  have key : ∀ {E : List En}, (E.map (·.idx)).Nodup → e ∈ E → e' ∈ E → e = e' := by
    intro E hn h1 h2
    induction E with
    | nil => cases h1
    | cons x r ih =>
      simp only [List.map_cons, List.nodup_cons] at hn
      simp only [List.mem_cons] at h1 h2
      rcases h1 with rfl | h1
      · rcases h2 with rfl | h2
        · rfl
        · exact absurd (List.mem_map.2 ⟨e', h2, hi.symm⟩) hn.1
      · rcases h2 with rfl | h2
        · exact absurd (List.mem_map.2 ⟨e, h1, hi⟩) hn.1
        · exact ih hn.2 h1 h2
  exact key h.nodupE he he'

theorem nodup_filter_idx {E : List En} (h : (E.map (·.idx)).Nodup) (f : Nat) : ((E.filter fun e => e.idx != f).map (·.idx)).Nodup := by
  induction E with
  | nil => exact List.nodup_nil
  | cons x r ih =>
    simp only [List.map_cons, List.nodup_cons] at h
    simp only [List.filter_cons]
    split
    · simp only [List.map_cons, List.nodup_cons]
      refine ⟨fun hm => h.1 ?_, ih h.2⟩
      obtain ⟨y, hy, e⟩ := List.mem_map.1 hm
      exact List.mem_map.2 ⟨y, (List.mem_filter.1 hy).1, e⟩
    · exact ih h.2

/-- The abstract machine comes to what the world has done early. -/
theorem Inv.catch (hx : Fix P call ops b hv) {f : Nat} {c : List Nat} {s : St} {E : List En} {listed : Array Bool} {ρ : Map} {a : Act} {w : World}
    (h : Inv P call ops b hv n0 ρ0 H0 w0 a0 sf (f :: c) s E listed ρ a w) {e : En} (he : e ∈ E) (hef : e.idx = f) :
    ∃ s', Inv P call ops b hv n0 ρ0 H0 w0 a0 sf c s' (E.filter fun e => e.idx != f) listed ρ a w := by
  subst hef
  have hia := h.idsApart hx
  have hnc := List.nodup_cons.1 h.nodupC
  obtain ⟨pre, post, si, op, x, hc, hd, ho, hl, hr, ha⟩ := h.wit e he
  obtain ⟨rfl, rfl⟩ := split_unique h.nodupC (p1 := []) (q1 := c) rfl hc
  simp only [drun, Option.some.injEq] at hd
  subst hd
  have hrun := h.run
  simp only [drun] at hrun
  cases hst : dstep P call ops b hv n0 e.idx s with
  | none => simp [hst] at hrun
  | some s1 =>
    simp only [hst] at hrun
    obtain ⟨v2, x2, hr2, rfl⟩ := dstep_light ho hl hst
    rw [hr] at hr2
    injection hr2 with hr2; injection hr2 with e1 e2; subst e1; subst e2
    have hdst : dstOf ops e.idx = op.dst := by simp [dstOf, ho]
    have hmem : ∀ y, y ∈ E.filter (fun y => y.idx != e.idx) ↔ y ∈ E ∧ y.idx ≠ e.idx := by intro y; simp [List.mem_filter]
    have hT : addT ops (E.filter fun y => y.idx != e.idx) (put s.T op.dst e.val) = addT ops E s.T := by
      apply List.ext_getElem?
      intro t
      by_cases hlt : t < s.T.length
      · by_cases hex : ∃ y ∈ E, dstOf ops y.idx = some t
        · obtain ⟨y, hy, hyt⟩ := hex
          rw [addT_mem hlt hx.dsts h.nodupE hy hyt]
          by_cases hye : y.idx = e.idx
          · have hye' : y = e := by
              have : ∀ {E : List En}, (E.map (·.idx)).Nodup → y ∈ E → e ∈ E → y = e := by
                intro E hn h1 h2
                induction E with
                | nil => cases h1
                | cons z r ih =>
                  simp only [List.map_cons, List.nodup_cons] at hn
                  simp only [List.mem_cons] at h1 h2
                  rcases h1 with rfl | h1
                  · rcases h2 with rfl | h2
                    · rfl
                    · exact absurd (List.mem_map.2 ⟨e, h2, hye.symm⟩) hn.1
                  · rcases h2 with rfl | h2
                    · exact absurd (List.mem_map.2 ⟨y, h1, hye⟩) hn.1
                    · exact ih hn.2 h1 h2
              exact this h.nodupE hy he
            subst hye'
            rw [addT_other ?_, ← hdst, hyt, put_get_eq hlt]
            intro z hz hzt
            obtain ⟨hz1, hz2⟩ := (hmem z).1 hz
            apply hz2
            unfold dstOf at hzt hyt
            cases g1 : ops[z.idx]? with
            | none => simp [g1] at hzt
            | some o1 =>
              cases g2 : ops[y.idx]? with
              | none => simp [g2] at hyt
              | some o2 =>
                simp only [g1, Option.bind_some] at hzt
                simp only [g2, Option.bind_some] at hyt
                exact dst_ne hx.dsts (by simpa using g1) (by simpa using g2) hzt hyt
          · exact addT_mem (by rw [length_put]; exact hlt) hx.dsts (nodup_filter_idx h.nodupE _) ((hmem y).2 ⟨hy, hye⟩) hyt
        · have hno : ∀ y ∈ E, dstOf ops y.idx ≠ some t := fun y hy hyt => hex ⟨y, hy, hyt⟩
          rw [addT_other hno, addT_other fun y hy => hno y ((hmem y).1 hy).1, ← hdst, put_get_ne (hno e he)]
      · rw [List.getElem?_eq_none (by rw [length_addT, length_put]; omega), List.getElem?_eq_none (by rw [length_addT]; omega)]
    have hia' : IdsApart (E.filter fun y => y.idx != e.idx) := fun y hy z hz => hia y ((hmem y).1 hy).1 z ((hmem z).1 hz).1
    have hH : ∀ y, (addH (E.filter fun y => y.idx != e.idx) (pushO s.H x)).get y = (addH E s.H).get y := by
      intro y
      by_cases hex : ∃ z ∈ E, ∃ o, z.al = some (y, o)
      · obtain ⟨z, hz, o, hzo⟩ := hex
        rw [addH_mem hia hz hzo]
        by_cases hze : z.idx = e.idx
        · -- it is e itself
          have hxo : ∃ o', e.al = some (y, o') ∧ o' = o := by
            have : z = e := by
              have : ∀ {E : List En}, (E.map (·.idx)).Nodup → z ∈ E → e ∈ E → z = e := by
                intro E hn h1 h2
                induction E with
                | nil => cases h1
                | cons q r ih =>
                  simp only [List.map_cons, List.nodup_cons] at hn
                  simp only [List.mem_cons] at h1 h2
                  rcases h1 with rfl | h1
                  · rcases h2 with rfl | h2
                    · rfl
                    · exact absurd (List.mem_map.2 ⟨e, h2, hze.symm⟩) hn.1
                  · rcases h2 with rfl | h2
                    · exact absurd (List.mem_map.2 ⟨z, h1, hze⟩) hn.1
                    · exact ih hn.2 h1 h2
              exact this h.nodupE hz he
            subst this
            exact ⟨o, hzo, rfl⟩
          obtain ⟨o', hea, rfl⟩ := hxo
          cases x with
          | none => rw [ha] at hea; cases hea
          | some q =>
            rw [ha] at hea
            simp only [Option.map_some, Option.some.injEq, Prod.mk.injEq] at hea
            obtain ⟨rfl, rfl⟩ := hea
            rw [addH_other]
            · simp only [pushO]; rw [Heap.get_push, if_pos rfl]
            · intro z' hz' o'' hzo''
              obtain ⟨g1, g2⟩ := (hmem z').1 hz'
              have : e = z' := hia e he z' g1 _ _ _ (by rw [ha]; rfl) hzo''
              exact g2 (by rw [this])
        · exact addH_mem hia' ((hmem z).2 ⟨hz, hze⟩) hzo
      · have hno : ∀ z ∈ E, ∀ o, z.al ≠ some (y, o) := fun z hz o hzo => hex ⟨z, hz, o, hzo⟩
        rw [addH_other hno, addH_other fun z hz => hno z ((hmem z).1 hz).1]
        cases x with
        | none => rfl
        | some q =>
          simp only [pushO]
          rw [Heap.get_push, if_neg]
          rintro rfl
          exact hno e he q (by rw [ha]; rfl)
    have hnext : s.H.next ≤ (pushO s.H x).next := by cases x <;> simp [pushO]
    refine ⟨_, hrun, h.sim.congr hH rfl, ?_, by rw [hT]; exact h.frel, ?_, nodup_filter_idx h.nodupE _, hnc.2, fun i hi => h.inC i (by simp [hi]), h.lsize, ?_, ?_, ?_, ?_, ?_, ?_, Nat.le_trans h.base hnext, h.n0eq, ?_,
      h.ext, h.out, fun y hy hb => by rw [hH]; exact h.dom y hy hb, fun y o hy => by rw [hH] at hy; exact h.ro y o hy, h.kp.congr hH, h.dfr⟩
    · intro y hy hy' hno
      refine h.free y (by simp only at hy; omega) hy' ?_
      intro z hz o hzo
      by_cases hze : z.idx = e.idx
      · have hzw := h.wit z hz
        obtain ⟨pre2, post2, si2, op2, x2, hc2, hd2, ho2, hl2, hr2, ha2⟩ := hzw
        obtain ⟨rfl, rfl⟩ := split_unique h.nodupC (p1 := []) (q1 := c) (i := z.idx) (by rw [hze]; rfl) hc2
        simp only [drun, Option.some.injEq] at hd2
        subst hd2
        rw [hze, ho] at ho2; injection ho2 with ho2; subst ho2
        rw [hze, hr] at hr2; injection hr2 with hr2; injection hr2 with _ hr2; subst hr2
        rw [ha2] at hzo
        cases x with
        | none => cases hzo
        | some q =>
          simp only [Option.map_some, Option.some.injEq, Prod.mk.injEq] at hzo
          obtain ⟨rfl, _⟩ := hzo
          simp [pushO] at hy
          omega
      · exact hno z ((hmem z).2 ⟨hz, hze⟩) o hzo
    · intro y hy
      obtain ⟨g1, g2⟩ := (hmem y).1 hy
      obtain ⟨pre2, post2, si2, op2, x2, hc2, hd2, ho2, hl2, hr2, ha2⟩ := h.wit y g1
      cases pre2 with
      | nil =>
        simp only [List.nil_append, List.cons.injEq] at hc2
        exact absurd hc2.1.symm g2
      | cons p ps =>
        simp only [List.cons_append, List.cons.injEq] at hc2
        obtain ⟨rfl, hc2⟩ := hc2
        simp only [drun, hst] at hd2
        exact ⟨ps, post2, si2, op2, x2, hc2, hd2, ho2, hl2, hr2, ha2⟩
    · intro i hi
      rw [h.listed i hi]
      constructor
      · rintro (hn | ⟨y, hy, rfl⟩)
        · left; intro hm; exact hn (by simp [hm])
        · by_cases hye : y.idx = e.idx
          · left; rw [hye]; exact hnc.1
          · exact .inr ⟨y, (hmem y).2 ⟨hy, hye⟩, rfl⟩
      · rintro (hn | ⟨y, hy, rfl⟩)
        · by_cases hie : i = e.idx
          · exact .inr ⟨e, he, hie.symm⟩
          · left; simp [hie, hn]
        · exact .inr ⟨y, ((hmem y).1 hy).1, rfl⟩
    · intro i hi hli k hk hkc
      obtain ⟨y, hy, rfl⟩ := h.done i hi hli k hk (by simp [hkc])
      refine ⟨y, (hmem y).2 ⟨hy, ?_⟩, rfl⟩
      intro hye
      rw [hye] at hkc
      exact hnc.1 hkc
    · intro pre i post e' k hk
      exact h.p2 (e.idx :: pre) i post (by rw [e']; rfl) k hk
    · intro pre i post o e' ho' hh k hk
      exact h.p1 (e.idx :: pre) i post o (by rw [e']; rfl) ho' hh k (by simp [hk])
    · obtain ⟨S, r, g1, g2⟩ := h.snap
      refine ⟨S, r, g1, fun y z hy => ?_⟩
      have hz := g2 y z hy
      cases x with
      | none => exact hz
      | some q =>
        simp only [pushO]
        rw [Heap.get_push, if_neg]
        · exact hz
        · intro e1
          have := h.bd y (by omega)
          rw [hz] at this
          cases this
    · simp only
      rw [h.cnt]
      congr 2
      apply List.filter_congr
      intro k hk
      have hke : k ≠ e.idx := by
        rintro rfl
        obtain ⟨o', ho', hh'⟩ := (hx.hvs e.idx).1 hk
        rw [ho] at ho'; injection ho' with ho'; subst ho'
        rw [hl] at hh'; cases hh'
      simp [hke]

    · intro y hy
      have := h.bd y (by simp only at hy; omega)
      cases x with
      | none => exact this
      | some q =>
        simp only [pushO] at hy ⊢
        rw [Heap.get_push, if_neg (by simp at hy; omega)]
        exact this

end
end Go.Abs

/- A region that draws its order: an operation done early; a heavy one done in its turn; all of them. -/
namespace Go.Abs
set_option linter.unusedVariables false
set_option linter.unusedSimpArgs false

theorem Keeps.congr_left {ρ ρ' : Map} {H H0 H' : Heap} {w w' : World} (h : Keeps ρ H w ρ' H' w') (hg : ∀ b, H0.get b = H.get b) : Keeps ρ H0 w ρ' H' w' where
  size := h.size
  kept := fun B o hB ho => h.kept B o hB fun hx => ho (hx.congr fun b => (hg b).symm)
  owns := fun B hx => (h.owns B hx).imp id fun hx => hx.congr fun b => (hg b).symm
  tape := h.tape
  os := h.os
  output := h.output

section
variable {P : Program} {call : CallFn} {ops : Array Oper} {b : Array Nat} {hv : List Nat} {n0 : Nat}
variable {ρ0 : Map} {H0 : Heap} {w0 : World} {a0 : Act} {sf : St}

theorem drun_snaps (hx : Fix P call ops b hv) : ∀ {l : List Nat} {s s' : St}, drun P call ops b hv n0 l s = some s' → ∃ nw, s'.snaps = nw ++ s.snaps ∧ (nw = [] → ∀ j ∈ l, ∀ o, ops[j]? = some o → isHeavy P o.op = false)
  | [], s, s', h => by
    simp only [drun, Option.some.injEq] at h
    exact ⟨[], by rw [h]; rfl, by simp⟩
  | i :: l, s, s', h => by
    simp only [drun] at h
    cases h1 : dstep P call ops b hv n0 i s with
    | none => simp [h1] at h
    | some s2 =>
      simp only [h1] at h
      obtain ⟨nw, e, hh⟩ := drun_snaps hx h
      unfold dstep at h1
      cases ho : ops[i]? with
      | none => simp [ho] at h1
      | some o =>
        simp only [ho] at h1
        cases hp : isHeavy P o.op with
        | true =>
          simp only [hp, if_true] at h1
          have : ∃ H1, s2.snaps = H1 :: s.snaps := by
            split at h1
            · split at h1
              · obtain rfl := Option.some.inj h1; exact ⟨_, rfl⟩
              · cases h1
            · obtain rfl := Option.some.inj h1; exact ⟨_, rfl⟩
          obtain ⟨H1, e1⟩ := this
          exact ⟨nw ++ [H1], by rw [e, e1]; simp, by simp⟩
        | false =>
          simp only [hp, Bool.false_eq_true, if_false] at h1
          split at h1
          · obtain rfl := Option.some.inj h1
            refine ⟨nw, e, fun hn j hj o' ho' => ?_⟩
            simp only [List.mem_cons] at hj
            rcases hj with rfl | hj
            · rw [ho] at ho'; injection ho' with ho'; subst ho'; exact hp
            · exact hh hn j hj o' ho'
          · cases h1

/-- Without a heavy operation memory only gets more blocks, each of them an operation's of the path. -/
theorem light_path {call : CallFn} (hm : CallMono call) : ∀ {l : List Nat} {s s' : St}, drun P call ops b hv n0 l s = some s' → (∀ j ∈ l, ∀ o, ops[j]? = some o → isHeavy P o.op = false) → ∀ x o, x < s'.H.next → s'.H.get x = some o →
    (x < s.H.next ∧ s.H.get x = some o) ∨ ∃ p1 j p2 sj oj v y, l = p1 ++ j :: p2 ∧ drun P call ops b hv n0 p1 s = some sj ∧ ops[j]? = some oj ∧ isHeavy P oj.op = false ∧ lightRes P call ops b hv n0 j oj sj = some (v, some y) ∧ x = sj.H.next ∧ o = y
  | [], s, s', h, _, x, o, hlt, hg => by
    simp only [drun, Option.some.injEq] at h
    subst h
    exact .inl ⟨hlt, hg⟩
  | i :: l, s, s', h, hl, x, o, hlt, hg => by
    simp only [drun] at h
    cases h1 : dstep P call ops b hv n0 i s with
    | none => simp [h1] at h
    | some s2 =>
      simp only [h1] at h
      rcases light_path hm h (fun j hj => hl j (by simp [hj])) x o hlt hg with ⟨g1, g2⟩ | ⟨p1, j, p2, sj, oj, v, y, e, hd, r⟩
      · cases ho : ops[i]? with
        | none => simp [dstep, ho] at h1
        | some oi =>
          have hli := hl i (by simp) oi ho
          obtain ⟨v, z, hr, rfl⟩ := dstep_light ho hli h1
          cases z with
          | none => exact .inl ⟨g1, g2⟩
          | some y =>
            simp only [pushO] at g1 g2
            rw [Heap.get_push] at g2
            split at g2
            · rename_i e
              injection g2 with g2
              exact .inr ⟨[], i, l, s, oi, v, y, rfl, rfl, ho, hli, hr, e, g2.symm⟩
            · simp at g1
              exact .inl ⟨by omega, g2⟩
      · exact .inr ⟨i :: p1, j, p2, sj, oj, v, y, by rw [e]; rfl, by simp only [drun, h1]; exact hd, r⟩

theorem filter_le {l : List Nat} {p q : Nat → Bool} (h : ∀ x ∈ l, p x = true → q x = true) : (l.filter p).length ≤ (l.filter q).length := by
  induction l with
  | nil => simp
  | cons x xs ih =>
    have ih := ih fun y hy => h y (by simp [hy])
    simp only [List.filter_cons]
    cases hp : p x with
    | true => rw [if_pos rfl, if_pos (h x (by simp) hp)]; simp; exact ih
    | false =>
      rw [if_neg (by simp)]
      split
      · simp; omega
      · exact ih

/-- An entry's block lies beyond what the abstract machine has. -/
theorem Inv.id_ge (hx : Fix P call ops b hv) {c : List Nat} {s : St} {E : List En} {ls : Array Bool} {ρ : Map} {a : Act} {w : World} (h : Inv P call ops b hv n0 ρ0 H0 w0 a0 sf c s E ls ρ a w) {e : En} (he : e ∈ E) {id : Nat} {o : AObj} (ha : e.al = some (id, o)) : s.H.next ≤ id := by
  obtain ⟨pre, post, si, op, x, hc, hd, ho, hl, hr, hal⟩ := h.wit e he
  rw [hal] at ha
  cases x with
  | none => cases ha
  | some y =>
    simp only [Option.map_some, Option.some.injEq, Prod.mk.injEq] at ha
    rw [← ha.1]
    exact drun_mono hx.hmono hd

theorem Inv.mem_c (hx : Fix P call ops b hv) {c : List Nat} {s : St} {E : List En} {ls : Array Bool} {ρ : Map} {a : Act} {w : World} (h : Inv P call ops b hv n0 ρ0 H0 w0 a0 sf c s E ls ρ a w) {e : En} (he : e ∈ E) : e.idx ∈ c := by
  obtain ⟨pre, post, si, op, x, hc, _⟩ := h.wit e he
  rw [hc]; simp

/-- What the abstract machine has stays, whatever is added. -/
theorem Inv.sub (hx : Fix P call ops b hv) {c : List Nat} {s : St} {E : List En} {ls : Array Bool} {ρ : Map} {a : Act} {w : World} (h : Inv P call ops b hv n0 ρ0 H0 w0 a0 sf c s E ls ρ a w) {x : Nat} {o : AObj} (hg : s.H.get x = some o) : (addH E s.H).get x = some o := by
  rw [addH_other]
  · exact hg
  · intro e he o' ha
    have h1 := h.id_ge hx he ha
    have h2 := h.bd x h1
    rw [hg] at h2
    cases h2

/-- The operands of an operation that is done early are what they will be. -/
theorem Inv.looks (hx : Fix P call ops b hv) {c : List Nat} {s : St} {E : List En} {ls : Array Bool} {ρ : Map} {a : Act} {w : World} (h : Inv P call ops b hv n0 ρ0 H0 w0 a0 sf c s E ls ρ a w)
    {pre post : List Nat} {i : Nat} {si : St} {o : Oper} (hc : c = pre ++ i :: post) (hd : drun P call ops b hv n0 pre s = some si) (ho : ops[i]? = some o)
    (hnl : ¬ ∃ e ∈ E, e.idx = i) (hrdy : ∀ k, (b.getD i 0).testBit k = true → k ∈ c → ∃ e ∈ E, e.idx = k) : ∀ t ∈ o.looksAt ops, (addT ops E s.T)[t]? = si.T[t]? := by
  intro t ht
  have hlen := drun_length hd
  by_cases hlt : t < s.T.length
  case neg =>
    have hle : s.T.length ≤ t := Nat.le_of_not_lt hlt
    rw [List.getElem?_eq_none (by rw [length_addT]; exact hle), List.getElem?_eq_none (by rw [hlen]; exact hle)]
  have hdst : ∀ {j : Nat}, dstOf ops j = some t → ∃ p, ops[j]? = some p ∧ p.dst = some t := by
    intro j hj
    unfold dstOf at hj
    cases hp : ops[j]? with
    | none => simp [hp] at hj
    | some p => exact ⟨p, rfl, by simpa [hp] using hj⟩
  have hsz : ∀ {j : Nat} {p : Oper}, ops[j]? = some p → j < ops.size := by
    intro j p hp
    obtain ⟨h, _⟩ := Array.getElem?_eq_some_iff.1 hp
    exact h
  by_cases hex : ∃ j ∈ pre, dstOf ops j = some t
  · obtain ⟨j, hj, hjt⟩ := hex
    obtain ⟨p, hp, hpd⟩ := hdst hjt
    obtain ⟨p1, p2, rfl⟩ := List.append_of_mem hj
    have hji : j ≠ i := by
      rintro rfl
      have := h.nodupC
      rw [hc] at this
      have := (List.nodup_append.1 this).2.2 j (by simp) j (by simp)
      exact this rfl
    have hb : (b.getD i 0).testBit j = true := by
      rcases looks_apart hx.looks ho hp (fun e => hji e.symm) hpd ht with hb | hb
      · exact hb
      · exfalso
        exact h.p2 p1 j (p2 ++ i :: post) (by rw [hc]; simp) i hb (by simp)
    obtain ⟨e, he, rfl⟩ := hrdy j hb (by rw [hc]; simp)
    rw [addT_mem hlt hx.dsts h.nodupE he hjt]
    obtain ⟨pre2, post2, s2, op2, x2, hc2, hd2, ho2, hl2, hr2, ha2⟩ := h.wit e he
    obtain ⟨rfl, _⟩ := split_unique h.nodupC (p1 := p1) (q1 := p2 ++ i :: post) (i := e.idx) (by rw [hc]; simp) hc2
    obtain ⟨s3, g1, g2⟩ := drun_append hd
    rw [hd2] at g1; injection g1 with g1; subst g1
    simp only [drun] at g2
    cases hst : dstep P call ops b hv n0 e.idx s2 with
    | none => simp [hst] at g2
    | some s4 =>
      simp only [hst] at g2
      obtain ⟨v4, x4, hr4, rfl⟩ := dstep_light ho2 hl2 hst
      rw [hr2] at hr4; injection hr4 with hr4; injection hr4 with hr4 _; subst hr4
      rw [hp] at ho2; injection ho2 with ho2; subst ho2
      rw [drun_T_other g2]
      · simp only [hpd]
        rw [put_get_eq]
        rw [drun_length hd2]
        exact hlt
      · intro k hk hkt
        obtain ⟨pk, hpk, hpkd⟩ := hdst hkt
        have := dst_ne hx.dsts (by simpa using hpk) (by simpa using hp) hpkd hpd
        subst this
        have hn := h.nodupC
        rw [hc] at hn
        simp only [List.append_assoc, List.cons_append] at hn
        have := (List.nodup_cons.1 (List.nodup_append.1 hn).2.1).1
        exact this (by simp [hk])
  · have hno : ∀ j ∈ pre, dstOf ops j ≠ some t := fun j hj hjt => hex ⟨j, hj, hjt⟩
    rw [drun_T_other hd hno, addT_other]
    intro e he het
    obtain ⟨p, hp, hpd⟩ := hdst het
    have hec := h.mem_c hx he
    have hei : e.idx ≠ i := fun e' => hnl ⟨e, he, e'⟩
    have hepost : e.idx ∈ post := by
      rw [hc] at hec
      simp only [List.mem_append, List.mem_cons] at hec
      rcases hec with h1 | h1 | h1
      · exact absurd het (hno _ h1)
      · exact absurd h1 hei
      · exact h1
    rcases looks_apart hx.looks ho hp (fun e' => hei e'.symm) hpd ht with hb | hb
    · exact h.p2 pre i post hc _ hb (by simp [hepost])
    · obtain ⟨e2, he2, e3⟩ := h.done e.idx (hsz hp) ((h.listed _ (hsz hp)).2 (.inr ⟨e, he, rfl⟩)) i hb (by rw [hc]; simp)
      exact hnl ⟨e2, he2, e3⟩

end
end Go.Abs
