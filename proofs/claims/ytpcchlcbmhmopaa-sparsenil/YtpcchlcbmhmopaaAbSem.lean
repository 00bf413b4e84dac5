/- All operations: what the abstract machine says of one, the model does. -/
import Derived.Test.YtpcchlcbmhmopaaAbOpsA
namespace Go.Abs
set_option linter.unusedVariables false
set_option linter.unusedSimpArgs false

section
variable {P : Program} {a : Act} {ρ : Map}

theorem semOk_congr {s : Sm} {n n' : Sem Next} (h : ∀ w, n.run P w = n'.run P w) (hs : SemOk P a s n' ρ) : SemOk P a s n ρ :=
  fun H w v H' hsim hr hf hwf => does_congr (h w) (hs H w v H' hsim hr hf hwf)

theorem callSem_ok {call : CallFn} (hcall : CallOk P call) {T : List AV} {c : Call} {ty : TypeId} {s : Sm} (h : callSem P call T c = some s) (hf : Frel ρ T a) (hg : Glob P ρ) :
    SemOk P a s (do let d ← resolve a.eval c ty; invoke d.target d.args) ρ := by
  unfold callSem at h
  split at h
  · cases h
  rename_i args hargs
  have hrel := evs_rel hf hg hargs
  split at h
  · rename_i b hb
    refine semOk_congr (n' := builtin b c.argTypes ty (c.args.map fun | .const _ => true | _ => false) (c.args.map a.eval)) (fun w => ?_) (builtin_ok h hrel)
    simp only [resolve, hb, Sem.run_bind, Sem.run_pure, Result.andThen_ok, invoke]
    rfl
  · rename_i f hc
    split at h
    case h_2 => cases h
    rename_i g first captured hev
    obtain rfl := Option.some.inj h
    have hfv := ev_rel hf hg hev
    obtain ⟨us, vs, hfe, hu, hv⟩ := hfv
    refine semOk_congr (n' := callFunc g (us ++ c.args.map a.eval ++ vs)) (fun w => ?_) ?_
    · simp only [resolve, hc, hfe, Deferred.ofValue, Sem.run_bind, Sem.run_pure, Result.andThen_ok, invoke]
    · intro H w v H' hsim hr hfree hwf
      refine hcall g _ H v H' hr ρ w _ hsim (hwf _ rfl) hfree ?_
      rw [Array.toList_append, Array.toList_append]
      exact (hu.append hrel).append hv
  · cases h

set_option maxHeartbeats 1000000 in
theorem sem_sound {call : CallFn} (hcall : CallOk P call) {T : List AV} {o : Oper} {s : Sm} (h : sem P call T o.op = some s) (hf : Frel ρ T a) (hg : Glob P ρ) : SemOk P a s (execOp a.eval o) ρ := by
  obtain ⟨dst, op, type, pos, after, guard⟩ := o
  simp only at h
  cases op <;> simp only [sem] at h
  case move x =>
    cases hx : ev P T x with
    | none => simp [hx] at h
    | some v =>
      simp only [hx, Option.map_some, Option.some.injEq] at h
      subst h
      exact semOk_pure (fun w => rfl) (ev_rel hf hg hx)
  case assign x =>
    cases hx : ev P T x with
    | none => simp [hx] at h
    | some v =>
      simp only [hx, Option.map_some, Option.some.injEq] at h
      subst h
      exact semOk_pure (fun w => rfl) (ev_rel hf hg hx)
  case pick c x y =>
    split at h
    case h_2 => cases h
    rename_i t vx vy hc hx hy
    obtain rfl := Option.some.inj h
    have h1 := ev_rel hf hg hc
    simp only [VRel] at h1
    refine semOk_pure (u := if t then a.eval x else a.eval y) (fun w => ?_) ?_
    · simp only [execOp, h1, asBool, Sem.run_bind, Sem.run_pure, Result.andThen_ok]
    · cases t
      · exact ev_rel hf hg hy
      · exact ev_rel hf hg hx
  case alloc e =>
    cases hz : tzero P e with
    | none => simp [hz] at h
    | some z =>
      simp only [hz, Option.map_some, Option.some.injEq] at h
      subst h
      obtain ⟨zu, hzu, hzr⟩ := tzero_run hz
      refine semOk_newRow (C := zu.cells) (el := e) (u := fun B => .pointer (some ⟨B, 0, none⟩)) (fun w => ?_) (hzr ρ).cells (fun ρ' b B hB => ⟨_, hB, rfl⟩)
      simp [execOp, Instr.alloc, hzu, newVar, newRow]
  case box e x =>
    cases hx : ev P T x with
    | none => simp [hx] at h
    | some v =>
      simp only [hx, Option.map_some, Option.some.injEq] at h
      subst h
      refine semOk_newRow (C := (a.eval x).cells) (el := e) (u := fun B => .pointer (some ⟨B, 0, none⟩)) (fun w => ?_) (ev_rel hf hg hx).cells (fun ρ' b B hB => ⟨_, hB, rfl⟩)
      simp [execOp, Instr.box, newVar, newRow]
  case build t parts =>
    split at h
    case h_2 => cases h
    rename_i ps hps
    cases hb : buildA P t ps with
    | none => simp [hb] at h
    | some v =>
      simp only [hb, Option.map_some, Option.some.injEq] at h
      subst h
      have hpr := evParts_rel hf hg hps
      obtain ⟨u, hu, hr⟩ := build_ok (parts := parts.map fun (i, x) => (i, a.eval x)) hb (by simpa using hpr)
      exact semOk_pure (fun w => run_v _ _ _ _ (hu w)) hr
  case buildSlice t n parts =>
    split at h
    case h_2 => cases h
    rename_i ps hps
    have hpr := evParts_rel hf hg hps
    have key : ∀ f : Nat × Operand → Nat × Value, (∀ p, f p = (p.1, a.eval p.2)) → SemOk P a s (do pure (Next.value (← Instr.buildSlice t n (parts.map f)))) ρ := by
      intro f hf
      have e : f = fun p => (p.1, a.eval p.2) := funext hf
      subst e
      exact buildSlice_ok h (by rw [Array.toList_map]; exact hpr)
    exact key _ (fun p => rfl)
  case load t x =>
    split at h
    case h_2 => cases h
    rename_i b o g n hx hgt hn
    obtain rfl := Option.some.inj h
    have hp := ev_rel hf hg hx
    obtain ⟨p, hp, he⟩ := hp
    refine semOk_read fun H w os v' hsim hos hk => ?_
    obtain ⟨ob, hob, rfl⟩ := mapOpt_one hos
    obtain ⟨u, hu, hr⟩ := var_read (P := P) hsim hgt hn hob hp hk
    refine ⟨u, run_v _ _ _ _ ?_, hr⟩
    simp only [Instr.loadAt, he, Instr.sureAddr, Sem.run_bind, Sem.run_pure, Result.andThen_ok]
    exact hu
  case store t x y =>
    split at h
    case h_2 => cases h
    rename_i b o v n hx hy hn
    split at h
    · cases h
    rename_i hlen
    simp only [ne_eq, Decidable.not_not] at hlen
    obtain rfl := Option.some.inj h
    obtain ⟨p, hp, he⟩ := ev_rel hf hg hx
    have hv := ev_rel hf hg hy
    intro H w v' H' hsim hr hfree hwf
    simp only [Sm.run] at hr
    cases hw : writeCells H b o v.cells with
    | none => simp [hw] at hr
    | some H1 =>
      simp only [hw, Option.some.injEq, Prod.mk.injEq] at hr
      obtain ⟨rfl, rfl⟩ := hr
      obtain ⟨w', hrun, hgd⟩ := writeCells_run (P := P) hsim hp hw hv.cells
      refine does_skip (run_u _ _ w' ?_) hgd
      have hsz := size_cells hv
      simp only [Instr.storeAt, he, Instr.sureAddr, Sem.run_bind, Sem.run_pure, Result.andThen_ok, storeVar, tsz_run hn]
      rw [if_neg (by rw [hsz, hlen]; simp)]
      simpa using hrun
  case nilCheck x =>
    split at h
    · rename_i q hx
      obtain rfl := Option.some.inj h
      have hv := ev_rel hf hg hx
      obtain ⟨p, hp, he⟩ := hv
      exact semOk_pure (u := .pointer (some ⟨p.blk, p.off + q.2, none⟩)) (fun w => by simp [execOp, he]) ⟨p, hp, rfl⟩
    · rename_i f xs ys hx
      obtain rfl := Option.some.inj h
      obtain ⟨us, vs, he, r⟩ := ev_rel hf hg hx
      exact semOk_pure (u := .func (.func f) us vs) (fun w => by simp [execOp, he]) ⟨us, vs, rfl, r⟩
    · cases h
  case binOp op t x y ty =>
    split at h
    case h_2 => cases h
    rename_i vx vy hx hy
    exact binSem_ok h (ev_rel hf hg hx) (ev_rel hf hg hy)
  case unOp op t x =>
    split at h
    case h_2 => cases h
    rename_i vx hx
    cases hu : unSem op vx with
    | none => simp [hu] at h
    | some v =>
      simp only [hu, Option.map_some, Option.some.injEq] at h
      subst h
      obtain ⟨r, hr, hrel⟩ := unSem_ok (P := P) hu (ev_rel hf hg hx)
      exact semOk_pure (fun w => run_v _ _ _ _ (hr w)) hrel
  case convert src d x =>
    split at h
    case h_2 => cases h
    rename_i vx hx
    exact conv_ok h (ev_rel hf hg hx)
  case sliceToArrayPointer arr x =>
    split at h
    case h_2 => cases h
    rename_i n e q len c sl hd hx
    split at h
    · cases h
    rename_i h1
    split at h
    · cases h
    rename_i h2
    obtain rfl := Option.some.inj h
    obtain ⟨p, y, c', hp, he, g1, g2, g5, g6⟩ := ev_rel hf hg hx
    have hy : y = ⟨p.blk, p.off + q.2, none⟩ := by
      rcases g5 with g5 | g5
      · omega
      · exact g5
    subst hy
    refine semOk_pure (u := .pointer (some ⟨p.blk, p.off + q.2, none⟩)) (fun w => run_v _ _ _ _ ?_) ⟨p, hp, rfl⟩
    simp [Instr.arrayAt, und_run hd, he, h1]
  case makeInterface t x =>
    split at h
    · cases h
    · rename_i d v hne hd hx
      obtain rfl := Option.some.inj h
      refine semOk_pure (u := .iface t (a.eval x)) (fun w => run_v _ _ _ _ ?_) ⟨_, rfl, ev_rel hf hg hx⟩
      cases d <;> first
        | exact (hne _ rfl).elim
        | simp [Instr.makeInterface, und_run hd]
    · cases h
  case makeFunc fn first captured =>
    split at h
    case h_2 => cases h
    rename_i xs ys hx hy
    obtain rfl := Option.some.inj h
    exact semOk_pure (u := .func fn (first.map a.eval) (captured.map a.eval)) (fun w => rfl) ⟨_, _, rfl, evs_rel hf hg hx, evs_rel hf hg hy⟩
  case makeMap t r =>
    split at h
    · rename_i k e hd
      obtain rfl := Option.some.inj h
      exact makeMap_ok ⟨k, e, hd⟩ (by simp)
    · rename_i k e x hd
      split at h
      case h_2 => cases h
      rename_i k2 n hx
      obtain rfl := Option.some.inj h
      have hv := ev_rel hf hg hx
      exact makeMap_ok ⟨k, e, hd⟩ (by intro y hy; simp at hy; rw [← hy]; exact ⟨_, _, hv⟩)
    · cases h
  case makeSlice t l c =>
    split at h
    case h_2 => cases h
    rename_i vl vc hl hc
    exact makeSlice_ok h (ev_rel hf hg hl) (ev_rel hf hg hc)
  case slice t x lo hi mx =>
    split at h
    case h_2 => cases h
    rename_i v l hh m hx hlo hhi hmx
    cases hs : sliceSem P t v l hh m with
    | none => simp [hs] at h
    | some r =>
      simp only [hs, Option.map_some, Option.some.injEq] at h
      subst h
      obtain ⟨u, hu, hr⟩ := slice_ok hs (ev_rel hf hg hx) (evOpt_rel hf hg hlo) (evOpt_rel hf hg hhi) (evOpt_rel hf hg hmx)
      exact semOk_pure (fun w => run_v _ _ _ _ (hu w)) hr
  case fieldAddr st x f =>
    split at h
    case h_2 => cases h
    rename_i fields b o hd hx
    split at h
    case h_2 => cases h
    rename_i fd hfd
    split at h
    · cases h
    rename_i hz
    obtain rfl := Option.some.inj h
    obtain ⟨r, hr, hrel⟩ := fieldAddr_ok hd hfd hz (ev_rel hf hg hx)
    exact semOk_pure (fun w => run_v _ _ _ _ (hr w)) hrel
  case field t x f =>
    split at h
    case h_2 => cases h
    rename_i fields cs hd hx
    split at h
    case h_2 => cases h
    rename_i fd hfd
    cases hp : partA P fd.type cs fd.offset with
    | none => simp [hp] at h
    | some v =>
      simp only [hp, Option.map_some, Option.some.injEq] at h
      subst h
      obtain ⟨r, hr, hrel⟩ := field_ok hd hfd hp (ev_rel hf hg hx)
      exact semOk_pure (fun w => run_v _ _ _ _ (hr w)) hrel
  case indexAddr t x ix =>
    split at h
    case h_2 => cases h
    rename_i vx vi hx hi
    cases hs : indexAddrSem P t vx vi with
    | none => simp [hs] at h
    | some v =>
      simp only [hs, Option.map_some, Option.some.injEq] at h
      subst h
      obtain ⟨r, hr, hrel⟩ := indexAddr_ok hs (ev_rel hf hg hx) (ev_rel hf hg hi)
      exact semOk_pure (fun w => run_v _ _ _ _ (hr w)) hrel
  case index t x ix =>
    split at h
    case h_2 => cases h
    rename_i vx vi hx hi
    cases hs : indexSem P t vx vi with
    | none => simp [hs] at h
    | some v =>
      simp only [hs, Option.map_some, Option.some.injEq] at h
      subst h
      obtain ⟨r, hr, hrel⟩ := index_ok hs (ev_rel hf hg hx) (ev_rel hf hg hi)
      exact semOk_pure (fun w => run_v _ _ _ _ (hr w)) hrel
  case lookup t x k ok =>
    split at h
    case h_2 => cases h
    rename_i vx vk hx hk
    exact lookup_ok h (ev_rel hf hg hx) (ev_rel hf hg hk)
  case mapUpdate t m k x =>
    split at h
    case h_2 => cases h
    rename_i vm vk vx hm hk hx
    exact update_ok h (ev_rel hf hg hm) (ev_rel hf hg hk) (ev_rel hf hg hx)
  case insert t m k x =>
    split at h
    case h_2 => cases h
    rename_i vm vk vx hm hk hx
    exact update_ok h (ev_rel hf hg hm) (ev_rel hf hg hk) (ev_rel hf hg hx)
  case extract t ix =>
    split at h
    case h_2 => cases h
    rename_i vs hx
    cases hi : vs[ix]? with
    | none => simp [hi] at h
    | some v =>
      simp only [hi, Option.map_some, Option.some.injEq] at h
      subst h
      obtain ⟨ds, he, hr⟩ := ev_rel hf hg hx
      obtain ⟨u, hu, hrel⟩ := hr.get ix v hi
      refine semOk_pure (u := u) (fun w => run_v _ _ _ _ ?_) hrel
      have : ds[ix]? = some u := by simpa using hu
      simp [Instr.extract, he, this]
  case call c =>
    exact callSem_ok hcall h hf hg
  all_goals cases h

end
end Go.Abs
