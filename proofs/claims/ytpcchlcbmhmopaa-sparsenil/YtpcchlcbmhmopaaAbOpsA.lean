/- Each operation of the model comes to what the abstract machine says: the rest of the builtins, and all operations together. -/
import Derived.Test.YtpcchlcbmhmopaaAbOps9
namespace Go.Abs
set_option linter.unusedVariables false
set_option linter.unusedSimpArgs false

section
variable {P : Program} {a : Act} {ρ : Map}

theorem copy_ok {ts : Array TypeId} {ty : TypeId} {d x : AV} {sm : Sm} {ud ux : Value} (h : copySem P ts d x = some sm) (hd : VRel ρ d ud) (hx : VRel ρ x ux) :
    SemOk P a sm (do pure (Next.value (← Builtin.copy_ ts ty #[ud, ux]))) ρ := by
  unfold copySem at h
  split at h
  · cases h
  rename_i t ht
  split at h
  case h_2 => cases h
  rename_i elem base dLen dCap sl m hdt hln
  split at h
  case h_2 => cases h
  rename_i size hn
  obtain rfl := Option.some.inj h
  intro H w v H' hsim hr hfree hwf
  simp only [Sm.run] at hr
  cases hsrc : srcCells H size (Nat.min m dLen) x with
  | none => simp [hsrc] at hr
  | some cells =>
    simp only [hsrc] at hr
    split at hr
    · cases hr
    rename_i hlen
    simp only [ne_eq, Decidable.not_not] at hlen
    obtain ⟨une, happ, hrel⟩ := src_ok (P := P) hsim hsrc hx
    have hl := lenOf_ok (P := P) hln hx w
    cases base with
    | none =>
      simp only [Option.some.injEq, Prod.mk.injEq] at hr
      obtain ⟨rfl, rfl⟩ := hr
      obtain ⟨e1, _, rfl⟩ := hd
      subst e1
      refine does_value (u := .int .i64 (Nat.min m 0 : Nat)) (run_v _ _ w _ ?_) (Good.refl hsim) rfl
      simp only [Builtin.copy_, ht, Sem.run_bind, Result.andThen_ok, und_run hdt, hl, tsz_run hn, List.getElem?_toArray, List.getElem?_cons_zero, List.getElem?_cons_succ, happ w rfl, Sem.run_pure, goInt]
    | some q =>
      obtain ⟨b, o⟩ := q
      simp only [] at hr
      cases hw : writeCells H b o cells with
      | none => simp [hw] at hr
      | some H1 =>
        simp only [hw, Option.some.injEq, Prod.mk.injEq] at hr
        obtain ⟨rfl, rfl⟩ := hr
        obtain ⟨p, y, c', hp, rfl, g1, g2, g5, g6⟩ := hd
        by_cases hz : cells = []
        · subst hz
          have hune : une = #[] := by
            have := hrel
            simp only [VRels] at this
            exact Array.ext' this
          subst hune
          simp only [writeCells, Option.some.injEq] at hw
          subst hw
          refine does_value (u := .int .i64 (Nat.min m dLen : Nat)) (run_v _ _ w _ ?_) (Good.refl hsim) rfl
          simp only [Builtin.copy_, ht, Sem.run_bind, Result.andThen_ok, und_run hdt, hl, tsz_run hn, List.getElem?_toArray, List.getElem?_cons_zero, List.getElem?_cons_succ, happ w rfl, Sem.run_pure, goInt, storeCells]
        · have hy : y = ⟨p.blk, p.off + o, none⟩ := by
            rcases g5 with g5 | g5
            · exfalso
              apply hz
              apply List.eq_nil_of_length_eq_zero
              have : dLen = 0 := by omega
              rw [hlen, this]
              simp
            · exact g5
          subst hy
          obtain ⟨w', hrun, hg⟩ := writeCells_run (P := P) hsim hp hw hrel
          refine does_value (u := .int .i64 (Nat.min m dLen : Nat)) (run_v _ _ w' _ ?_) hg rfl
          simp only [Builtin.copy_, ht, Sem.run_bind, Result.andThen_ok, und_run hdt, hl, tsz_run hn, List.getElem?_toArray, List.getElem?_cons_zero, List.getElem?_cons_succ, happ w rfl, Sem.run_pure, goInt, hrun]

theorem clear_ok {ts : Array TypeId} {ty : TypeId} {x : AV} {sm : Sm} {ux : Value} (h : clearSem P ts x = some sm) (hx : VRel ρ x ux) :
    SemOk P a sm (do pure (Next.value (← Builtin.clear_ ts ty #[ux]))) ρ := by
  unfold clearSem at h
  split at h
  · cases h
  rename_i t ht
  split at h
  · rename_i d1 hd
    obtain rfl := Option.some.inj h
    cases hx
    refine semOk_pure (u := .tuple #[]) (fun w => run_v _ _ _ _ ?_) ⟨#[], rfl, rfl⟩
    cases d1 <;> simp [Builtin.clear_, ht, und_run hd]
  · rename_i d1 n c sl hd
    obtain rfl := Option.some.inj h
    obtain ⟨e1, e2, rfl⟩ := hx
    refine semOk_pure (u := .tuple #[]) (fun w => run_v _ _ _ _ ?_) ⟨#[], rfl, rfl⟩
    cases d1 <;> simp [Builtin.clear_, ht, und_run hd]
  · rename_i k e r hd
    obtain rfl := Option.some.inj h
    intro H w v' H' hsim hr _ hwf
    simp only [Sm.run] at hr
    obtain ⟨p, hp, h0, rfl⟩ := hx
    cases hob : H.get r with
    | none => simp [hob] at hr
    | some ob =>
      cases ob with
      | cells _ _ _ _ => simp [hob] at hr
      | dead => simp [hob] at hr
      | map es =>
        simp only [hob, Option.some.injEq, Prod.mk.injEq] at hr
        obtain ⟨rfl, rfl⟩ := hr
        obtain ⟨p1, ms, clk, hp1, _, _, hh, hkr⟩ := hsim.obj _ _ hob
        rw [hp] at hp1; injection hp1 with hp1; subst hp1
        refine does_value (u := .tuple #[]) (run_v _ _ _ _ ?_) (Good.mapped (ms' := #[]) (k' := clk) hsim hob hp hh rfl) ⟨#[], rfl, rfl⟩
        simp [Builtin.clear_, ht, und_run hd, getObj_map hh, setObj_map hh]
  · rename_i elem b o n c sl hd
    split at h
    · rename_i h0
      obtain rfl := Option.some.inj h
      subst h0
      obtain ⟨p, y, c', hp, rfl, _⟩ := hx
      refine semOk_pure (u := .tuple #[]) (fun w => run_v _ _ _ _ ?_) ⟨#[], rfl, rfl⟩
      simp [Builtin.clear_, ht, und_run hd]
    · rename_i h0
      split at h
      case h_2 => cases h
      rename_i z size hz hn
      split at h
      · cases h
      rename_i hzl
      simp only [ne_eq, Decidable.not_not] at hzl
      obtain rfl := Option.some.inj h
      obtain ⟨zu, hzu, hzr⟩ := tzero_run hz
      intro H w v' H' hsim hr _ hwf
      simp only [Sm.run] at hr
      cases hw : writeCells H b o (zeros z.cells n) with
      | none => simp [hw] at hr
      | some H1 =>
        simp only [hw, Option.some.injEq, Prod.mk.injEq] at hr
        obtain ⟨rfl, rfl⟩ := hr
        obtain ⟨p, y, c', hp, rfl, g1, g2, g5, g6⟩ := hx
        have hy : y = ⟨p.blk, p.off + o, none⟩ := by
          rcases g5 with g5 | g5
          · omega
          · exact g5
        subst hy
        obtain ⟨w', hrun, hg⟩ := writeCells_run (P := P) hsim hp hw (zeroCells_ok hzl (hzr ρ) n)
        refine does_value (u := .tuple #[]) (run_v _ _ w' _ ?_) hg ⟨#[], rfl, rfl⟩
        obtain ⟨n', rfl⟩ := Nat.exists_eq_succ_of_ne_zero h0
        simp only [Builtin.clear_, ht, Sem.run_bind, Result.andThen_ok, und_run hd, List.getElem?_toArray, List.getElem?_cons_zero, hzu, hrun, Sem.run_pure]
  · cases h

theorem len_ok {ts : Array TypeId} {ty : TypeId} {x : AV} {sm : Sm} {ux : Value} (h : lenSem P ts x = some sm) (hx : VRel ρ x ux) :
    SemOk P a sm (do pure (Next.value (← Builtin.len_ ts ty #[ux]))) ρ := by
  unfold lenSem at h
  split at h
  · cases h
  rename_i t ht
  split at h
  · rename_i s hd
    obtain rfl := Option.some.inj h
    cases hx
    refine semOk_pure (u := .int .i64 s.length) (fun w => run_v _ _ _ _ ?_) rfl
    simp [Builtin.len_, ht, und_run hd, str_size, goInt]
  · rename_i e b n c sl hd
    obtain rfl := Option.some.inj h
    obtain ⟨b', c', rfl⟩ := slice_form hx
    refine semOk_pure (u := .int .i64 n) (fun w => run_v _ _ _ _ ?_) rfl
    simp [Builtin.len_, ht, und_run hd, goInt]
  · rename_i k e hd
    obtain rfl := Option.some.inj h
    cases hx
    refine semOk_pure (u := .int .i64 0) (fun w => run_v _ _ _ _ ?_) rfl
    simp [Builtin.len_, ht, und_run hd, goInt]
  · rename_i k e r hd
    obtain rfl := Option.some.inj h
    refine semOk_read fun H w os v' hsim hos hk => ?_
    obtain ⟨ob, hob, rfl⟩ := mapOpt_one hos
    obtain ⟨p, hp, h0, rfl⟩ := hx
    cases ob with
    | cells _ _ _ _ => simp at hk
    | dead => simp at hk
    | map es =>
      simp only [Option.some.injEq] at hk
      subst hk
      obtain ⟨p1, ms, clk, hp1, _, _, hh, hkr⟩ := hsim.obj _ _ hob
      rw [hp] at hp1; injection hp1 with hp1; subst hp1
      have hl := hkr.length
      simp at hl
      refine ⟨.int .i64 es.length, run_v _ _ _ _ ?_, rfl⟩
      simp [Builtin.len_, ht, und_run hd, getObj_map hh, goInt, hl]
  · rename_i n e hd
    obtain rfl := Option.some.inj h
    refine semOk_pure (u := .int .i64 n) (fun w => run_v _ _ _ _ ?_) rfl
    simp [Builtin.len_, ht, und_run hd, goInt]
  · rename_i arr hd
    split at h
    case h_2 => cases h
    rename_i n e hd2
    obtain rfl := Option.some.inj h
    refine semOk_pure (u := .int .i64 n) (fun w => run_v _ _ _ _ ?_) rfl
    simp [Builtin.len_, ht, und_run hd, und_run hd2, goInt]
  · cases h

theorem cap_ok {ts : Array TypeId} {ty : TypeId} {x : AV} {sm : Sm} {ux : Value} (h : capSem P ts x = some sm) (hx : VRel ρ x ux) :
    SemOk P a sm (do pure (Next.value (← Builtin.cap_ ts ty #[ux]))) ρ := by
  unfold capSem at h
  split at h
  · cases h
  rename_i t ht
  split at h
  · rename_i e n c sl hd
    obtain rfl := Option.some.inj h
    obtain ⟨_, _, rfl⟩ := hx
    refine semOk_pure (u := .int .i64 0) (fun w => run_v _ _ _ _ ?_) rfl
    simp [Builtin.cap_, ht, und_run hd, goInt]
  · rename_i e q n c hd
    obtain rfl := Option.some.inj h
    obtain ⟨p, y, c', hp, rfl, g1, g2, g5, g6⟩ := hx
    have : c' = c := by
      rcases g6 with g6 | ⟨s, hs, _⟩
      · exact g6
      · cases hs
    subst this
    refine semOk_pure (u := .int .i64 c') (fun w => run_v _ _ _ _ ?_) rfl
    simp [Builtin.cap_, ht, und_run hd, goInt]
  · rename_i n e hd
    obtain rfl := Option.some.inj h
    refine semOk_pure (u := .int .i64 n) (fun w => run_v _ _ _ _ ?_) rfl
    simp [Builtin.cap_, ht, und_run hd, goInt]
  · cases h

theorem maxs_ok : ∀ {l : List AV} {us : List Value} {x r : AV} {u : Value}, VRels ρ l us → VRel ρ x u → maxA x l = some r → ∃ z, (∀ w, (us.foldlM Builtin.max2 u).run P w = .ok z w) ∧ VRel ρ r z
  | [], us, x, r, u, hl, hx, h => by
    cases hl
    have : r = x := by cases x <;> (simp only [maxA, Option.some.injEq] at h; exact h.symm)
    subst this
    exact ⟨u, fun w => rfl, hx⟩
  | y :: ys, us, x, r, u, ⟨v, vs, e, hy, hys⟩, hx, h => by
    subst e
    unfold maxA at h
    split at h
    · rename_i heq; cases heq
    · rename_i k p k' q r' heq
      injection heq with e1 e2
      subst e1; subst e2
      split at h
      · rename_i e
        subst e
        cases hx; cases hy
        obtain ⟨z, hz, hr⟩ := maxs_ok (x := .int k (if q > p then q else p)) (u := .int k (if q > p then q else p)) hys rfl h
        exact ⟨z, fun w => by simp only [List.foldlM_cons, Sem.run_bind, Builtin.max2, Sem.run_pure, Result.andThen_ok]; exact hz w, hr⟩
      · cases h
    · cases h

theorem mins_ok : ∀ {l : List AV} {us : List Value} {x r : AV} {u : Value}, VRels ρ l us → VRel ρ x u → minA x l = some r → ∃ z, (∀ w, (us.foldlM Builtin.min2 u).run P w = .ok z w) ∧ VRel ρ r z
  | [], us, x, r, u, hl, hx, h => by
    cases hl
    have : r = x := by cases x <;> (simp only [minA, Option.some.injEq] at h; exact h.symm)
    subst this
    exact ⟨u, fun w => rfl, hx⟩
  | y :: ys, us, x, r, u, ⟨v, vs, e, hy, hys⟩, hx, h => by
    subst e
    unfold minA at h
    split at h
    · rename_i heq; cases heq
    · rename_i k p k' q r' heq
      injection heq with e1 e2
      subst e1; subst e2
      split at h
      · rename_i e
        subst e
        cases hx; cases hy
        obtain ⟨z, hz, hr⟩ := mins_ok (x := .int k (if q < p then q else p)) (u := .int k (if q < p then q else p)) hys rfl h
        exact ⟨z, fun w => by simp only [List.foldlM_cons, Sem.run_bind, Builtin.min2, Sem.run_pure, Result.andThen_ok]; exact hz w, hr⟩
      · cases h
    · cases h

theorem builtin_ok {b : Builtin} {ts : Array TypeId} {ty : TypeId} {consts : Array Bool} {args : List AV} {sm : Sm} {us : Array Value} (h : builtinSem P b ts args = some sm) (hx : VRels ρ args us.toList) :
    SemOk P a sm (builtin b ts ty consts us) ρ := by
  have one : ∀ {x : AV}, VRels ρ [x] us.toList → ∃ u, us = #[u] ∧ VRel ρ x u := by
    intro x ⟨y, ys, e, hy, hys⟩
    cases hys
    exact ⟨y, Array.ext' e, hy⟩
  have two : ∀ {x y : AV}, VRels ρ [x, y] us.toList → ∃ u v, us = #[u, v] ∧ VRel ρ x u ∧ VRel ρ y v := by
    intro x y ⟨u, l, e, hu, v, l2, e2, hv, hl⟩
    cases hl
    subst e2
    exact ⟨u, v, Array.ext' e, hu, hv⟩
  unfold builtinSem at h
  split at h
  · obtain ⟨u, v, rfl, hu, hv⟩ := two hx
    exact append_ok h hu hv
  · obtain ⟨u, v, rfl, hu, hv⟩ := two hx
    exact copy_ok h hu hv
  · obtain ⟨u, rfl, hu⟩ := one hx
    exact clear_ok h hu
  · obtain ⟨u, v, rfl, hu, hv⟩ := two hx
    exact delete_ok h hu hv
  · obtain ⟨u, rfl, hu⟩ := one hx
    exact len_ok h hu
  · obtain ⟨u, rfl, hu⟩ := one hx
    exact cap_ok h hu
  · rename_i x r
    cases hm : maxA x r with
    | none => simp [hm] at h
    | some v =>
      simp only [hm, Option.map_some, Option.some.injEq] at h
      subst h
      obtain ⟨u, l, e, hu, hl⟩ := hx
      obtain ⟨z, hz, hr⟩ := maxs_ok (P := P) hl hu hm
      refine semOk_pure (u := z) (fun w => run_v _ _ _ _ ?_) hr
      simp only [Builtin.max_, e]
      exact hz w
  · rename_i x r
    cases hm : minA x r with
    | none => simp [hm] at h
    | some v =>
      simp only [hm, Option.map_some, Option.some.injEq] at h
      subst h
      obtain ⟨u, l, e, hu, hl⟩ := hx
      obtain ⟨z, hz, hr⟩ := mins_ok (P := P) hl hu hm
      refine semOk_pure (u := z) (fun w => run_v _ _ _ _ ?_) hr
      simp only [Builtin.min_, e]
      exact hz w
  · cases h

end
end Go.Abs
