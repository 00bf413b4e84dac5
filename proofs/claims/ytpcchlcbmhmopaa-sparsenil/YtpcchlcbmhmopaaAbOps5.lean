/- Each operation of the model comes to what the abstract machine says: '==', the operators, conversions, maps, make. -/
import Derived.Test.YtpcchlcbmhmopaaAbOps4
namespace Go.Abs
set_option linter.unusedVariables false
set_option linter.unusedSimpArgs false

section
variable {P : Program} {a : Act} {ρ : Map}

theorem semOk_read {bs : List Nat} {k : List AObj → Option AV} {n : Sem Next}
    (h : ∀ (H : Heap) (w : World) (os : List AObj) (v : AV), Sim P.globals.size ρ H w → mapOpt H.get bs = some os → k os = some v → ∃ u, n.run P w = .ok (.value u) w ∧ VRel ρ v u) : SemOk P a (.read bs k) n ρ := by
  intro H w v H' hs hr _ hwf
  simp only [Sm.run] at hr
  cases hb : mapOpt H.get bs with
  | none => simp [hb] at hr
  | some os =>
    simp only [hb] at hr
    cases hk : k os with
    | none => simp [hk] at hr
    | some x =>
      simp only [hk, Option.some.injEq, Prod.mk.injEq] at hr
      obtain ⟨rfl, rfl⟩ := hr
      obtain ⟨u, hu, hv⟩ := h H w os x hs hb hk
      exact does_pure hs hu hv

theorem mapOpt_one {H : Heap} {b : Nat} {os : List AObj} (h : mapOpt H.get [b] = some os) : ∃ o, H.get b = some o ∧ os = [o] := by
  simp only [mapOpt] at h
  cases hb : H.get b with
  | none => simp [hb] at h
  | some o => simp [hb] at h; exact ⟨o, rfl, h.symm⟩

theorem mapOpt_two {H : Heap} {b c : Nat} {os : List AObj} (h : mapOpt H.get [b, c] = some os) : ∃ o o', H.get b = some o ∧ H.get c = some o' ∧ os = [o, o'] := by
  simp only [mapOpt] at h
  cases hb : H.get b with
  | none => simp [hb] at h
  | some o =>
    cases hc : H.get c with
    | none => simp [hb, hc] at h
    | some o' => simp [hb, hc] at h; exact ⟨o, o', rfl, rfl, h.symm⟩

/-- Values that are neither numbers nor strings. -/
def NoNum (u : Value) : Prop := (∀ k m, u ≠ .int k m) ∧ (∀ s, u ≠ .string s) ∧ (∀ k m, u ≠ .float k m) ∧ (∀ k m i, u ≠ .complex k m i) ∧ u ≠ .nilIface

theorem run_eq {neg : Bool} {t : TypeId} {ox oy : Operand} {u v : Value} {r : Bool} {w : World} (hu : NoNum u) (hagg : (∃ us vs, u = .agg us ∧ v = .agg vs) → P.eqGuardType P.depth t = false)
    (h : (Op.equal t u v).run P w = .ok r w) :
    (do pure (Next.value (← (do eqGuard (if neg then .neq else .eql) t ox oy u v; binOp (if neg then .neq else .eql) t u v))) : Sem Next).run P w = .ok (.value (.bool (r != neg))) w := by
  obtain ⟨h1, h2, h3, h4, h5⟩ := hu
  simp only [Sem.run_bind, eqGuard_ok hagg (fun ⟨e, _⟩ => h5 e) w, Result.andThen_ok]
  rw [run_binOp_eq ⟨fun k m k' n e => h1 k m e.1, fun s s' e => h2 s e.1, fun k m k' n e => h3 k m e.1, fun k m k' n i j e => h4 k m i e.1⟩ w, h]
  rfl

theorem equal_of {t : TypeId} {u v : Value} {r : Bool} {w : World} (h : ∀ n, (Op.equalIn (n + 1) t u v).run P w = .ok r w) : (Op.equal t u v).run P w = .ok r w := h 9999

theorem eqSem_ok {t : TypeId} {x y : AV} {neg : Bool} {s : Sm} {ox oy : Operand} {u v : Value} (h : eqSem P t x y neg = some s) (hx : VRel ρ x u) (hy : VRel ρ y v) :
    SemOk P a s (do pure (Next.value (← (do eqGuard (if neg then .neq else .eql) t ox oy u v; binOp (if neg then .neq else .eql) t u v)))) ρ := by
  unfold eqSem at h
  split at h
  · -- a nil pointer
    rename_i e b hd
    obtain rfl := Option.some.inj h
    cases hx
    cases b with
    | none =>
      cases hy
      refine semOk_pure (u := .bool (true != neg)) (fun w => run_eq ⟨by simp, by simp, by simp, by simp, by simp⟩ (by rintro ⟨us, vs, h, _⟩; cases h) (equal_of fun n => ?_)) rfl
      simp only [Op.equalIn, Sem.run_bind, und_run hd, Result.andThen_ok, Sem.run_pure, Option.isNone_none]
    | some q =>
      obtain ⟨p, hp, rfl⟩ := hy
      refine semOk_pure (u := .bool (false != neg)) (fun w => run_eq ⟨by simp, by simp, by simp, by simp, by simp⟩ (by rintro ⟨us, vs, h, _⟩; cases h) (equal_of fun n => ?_)) rfl
      simp only [Op.equalIn, Sem.run_bind, und_run hd, Result.andThen_ok, Sem.run_pure, Option.isNone_some]
  · -- a pointer against nil
    rename_i e q hd
    obtain rfl := Option.some.inj h
    obtain ⟨p, hp, rfl⟩ := hx
    cases hy
    refine semOk_pure (u := .bool (false != neg)) (fun w => run_eq ⟨by simp, by simp, by simp, by simp, by simp⟩ (by rintro ⟨us, vs, h, _⟩; cases h) (equal_of fun n => ?_)) rfl
    simp only [Op.equalIn, Sem.run_bind, und_run hd, Result.andThen_ok, Sem.run_pure]
  · -- two pointers
    rename_i e q1 q2 hd
    split at h
    · cases h
    · rename_i hz
      obtain ⟨p, hp, rfl⟩ := hx
      obtain ⟨q, hq, rfl⟩ := hy
      split at h
      · rename_i hb
        obtain rfl := Option.some.inj h
        rw [hb, hq] at hp; injection hp with hp; subst hp
        refine semOk_pure (u := .bool ((q1.2 == q2.2) != neg)) (fun w => run_eq ⟨by simp, by simp, by simp, by simp, by simp⟩ (by rintro ⟨us, vs, h, _⟩; cases h) ?_) rfl
        rw [run_equal_pointer hd hz]
        simp only [sameAddr, beq_self_eq_true, if_true, Sem.run_pure]
        congr 1
        rw [Bool.eq_iff_iff]
        simp
      · rename_i hb
        obtain rfl := Option.some.inj h
        refine semOk_read fun H w os v' hs hos hk => ?_
        obtain ⟨o1, o2, h1, h2, rfl⟩ := mapOpt_two hos
        cases hr : eqRead q1 q2 [o1, o2] with
        | none => simp [hr] at hk
        | some r =>
          simp only [hr, Option.some.injEq] at hk
          subst hk
          refine ⟨.bool (false != neg), run_eq ⟨by simp, by simp, by simp, by simp, by simp⟩ (by rintro ⟨us, vs, h, _⟩; cases h) ?_, rfl⟩
          rw [run_equal_pointer hd hz]
          exact sameAddr_apart hs hp hq hb h1 h2 hr
  · -- a nil slice
    rename_i e n1 c1 s1 b n2 c2 s2 hd
    obtain rfl := Option.some.inj h
    obtain ⟨_, _, rfl⟩ := hx
    cases b with
    | none =>
      obtain ⟨_, _, rfl⟩ := hy
      refine semOk_pure (u := .bool (true != neg)) (fun w => run_eq ⟨by simp, by simp, by simp, by simp, by simp⟩ (by rintro ⟨us, vs, h, _⟩; cases h) (equal_of fun n => ?_)) rfl
      simp only [Op.equalIn, Sem.run_bind, und_run hd, Result.andThen_ok, Sem.run_pure, Option.isNone_none]
    | some q =>
      obtain ⟨p, z, c', hp, rfl, _⟩ := hy
      refine semOk_pure (u := .bool (false != neg)) (fun w => run_eq ⟨by simp, by simp, by simp, by simp, by simp⟩ (by rintro ⟨us, vs, h, _⟩; cases h) (equal_of fun n => ?_)) rfl
      simp only [Op.equalIn, Sem.run_bind, und_run hd, Result.andThen_ok, Sem.run_pure, Option.isNone_some]
  · -- a slice against nil
    rename_i e q n1 c1 s1 n2 c2 s2 hd
    obtain rfl := Option.some.inj h
    obtain ⟨p, z, c', hp, rfl, _⟩ := hx
    obtain ⟨_, _, rfl⟩ := hy
    refine semOk_pure (u := .bool (false != neg)) (fun w => run_eq ⟨by simp, by simp, by simp, by simp, by simp⟩ (by rintro ⟨us, vs, h, _⟩; cases h) (equal_of fun n => ?_)) rfl
    simp only [Op.equalIn, Sem.run_bind, und_run hd, Result.andThen_ok, Sem.run_pure]
  · -- a nil map
    rename_i k e b hd
    obtain rfl := Option.some.inj h
    cases hx
    cases b with
    | none =>
      cases hy
      refine semOk_pure (u := .bool (true != neg)) (fun w => run_eq ⟨by simp, by simp, by simp, by simp, by simp⟩ (by rintro ⟨us, vs, h, _⟩; cases h) (equal_of fun n => ?_)) rfl
      simp only [Op.equalIn, Sem.run_bind, und_run hd, Result.andThen_ok, Sem.run_pure, Option.isNone_none]
    | some q =>
      obtain ⟨p, hp, _, rfl⟩ := hy
      refine semOk_pure (u := .bool (false != neg)) (fun w => run_eq ⟨by simp, by simp, by simp, by simp, by simp⟩ (by rintro ⟨us, vs, h, _⟩; cases h) (equal_of fun n => ?_)) rfl
      simp only [Op.equalIn, Sem.run_bind, und_run hd, Result.andThen_ok, Sem.run_pure, Option.isNone_some]
  · rename_i k e q hd
    obtain rfl := Option.some.inj h
    obtain ⟨p, hp, _, rfl⟩ := hx
    cases hy
    refine semOk_pure (u := .bool (false != neg)) (fun w => run_eq ⟨by simp, by simp, by simp, by simp, by simp⟩ (by rintro ⟨us, vs, h, _⟩; cases h) (equal_of fun n => ?_)) rfl
    simp only [Op.equalIn, Sem.run_bind, und_run hd, Result.andThen_ok, Sem.run_pure]
  · rename_i k1 k2 k3 hd
    obtain rfl := Option.some.inj h
    cases hx; cases hy
    refine semOk_pure (u := .bool (true != neg)) (fun w => run_eq ⟨by simp, by simp, by simp, by simp, by simp⟩ (by rintro ⟨us, vs, h, _⟩; cases h) (equal_of fun n => ?_)) rfl
    simp only [Op.equalIn, Sem.run_bind, und_run hd, Result.andThen_ok, Sem.run_pure]
  · rename_i k1 k2 k3 f xs ys hd
    obtain rfl := Option.some.inj h
    cases hx
    obtain ⟨us, vs, rfl, _⟩ := hy
    refine semOk_pure (u := .bool (false != neg)) (fun w => run_eq ⟨by simp, by simp, by simp, by simp, by simp⟩ (by rintro ⟨us, vs, h, _⟩; cases h) (equal_of fun n => ?_)) rfl
    simp only [Op.equalIn, Sem.run_bind, und_run hd, Result.andThen_ok, Sem.run_pure]
  · rename_i k1 k2 k3 f xs ys hd
    obtain rfl := Option.some.inj h
    cases hy
    obtain ⟨us, vs, rfl, _⟩ := hx
    refine semOk_pure (u := .bool (false != neg)) (fun w => run_eq ⟨by simp, by simp, by simp, by simp, by simp⟩ (by rintro ⟨us, vs, h, _⟩; cases h) (equal_of fun n => ?_)) rfl
    simp only [Op.equalIn, Sem.run_bind, und_run hd, Result.andThen_ok, Sem.run_pure]
  all_goals first
    | (rename_i xs ys hd
       split at h
       · cases h
       · rename_i hg
         cases hr : eqA P 8 t (.agg xs) (.agg ys) with
         | none => simp [hr] at h
         | some r =>
           simp only [hr, Option.some.injEq] at h
           subst h
           have he := fun w => eqA_ok (P := P) (ρ := ρ) 8 10000 t _ _ r u v (by omega) hr hx hy w
           obtain ⟨us, rfl, _⟩ := hx
           obtain ⟨vs, rfl, _⟩ := hy
           exact semOk_pure (u := .bool (r != neg)) (fun w => run_eq ⟨by simp, by simp, by simp, by simp, by simp⟩ (fun _ => by simpa using hg) (he w)) rfl)
    | cases h

theorem binSem_ok {op : BinOp} {t : TypeId} {x y : AV} {s : Sm} {ox oy : Operand} {u v : Value} (h : binSem P op t x y = some s) (hx : VRel ρ x u) (hy : VRel ρ y v) :
    SemOk P a s (do pure (Next.value (← (do eqGuard op t ox oy u v; binOp op t u v)))) ρ := by
  have num : ∀ {r : AV} {u v : Value}, (∃ z, (∀ w, (binOp op t u v).run P w = .ok z w) ∧ VRel ρ r z) → (¬ (u = .nilIface ∧ v = .nilIface)) → (¬ ∃ us vs, u = .agg us ∧ v = .agg vs) →
      SemOk P a (.pure r) (do pure (Next.value (← (do eqGuard op t ox oy u v; binOp op t u v)))) ρ := by
    intro r u v ⟨z, hz, hr⟩ h1 h2
    refine semOk_pure (u := z) (fun w => ?_) hr
    simp only [Sem.run_bind, eqGuard_ok (fun h => absurd h h2) h1 w, Result.andThen_ok, hz, Sem.run_pure]
  unfold binSem at h
  split at h
  · rename_i k p k' q
    cases hs : shiftOp .shl k p q with
    | none => simp [hs] at h
    | some r =>
      simp only [hs, Option.map_some, Option.some.injEq] at h
      subst h
      cases hx; cases hy
      exact num (shiftOp_ok hs (.inl rfl)) (by simp) (by simp)
  · rename_i k p k' q
    cases hs : shiftOp .shr k p q with
    | none => simp [hs] at h
    | some r =>
      simp only [hs, Option.map_some, Option.some.injEq] at h
      subst h
      cases hx; cases hy
      exact num (shiftOp_ok hs (.inr rfl)) (by simp) (by simp)
  · rename_i k p k' q hn1 hn2
    split at h
    · rename_i e
      subst e
      cases hs : intOp op k p q with
      | none => simp [hs] at h
      | some r =>
        simp only [hs, Option.map_some, Option.some.injEq] at h
        subst h
        cases hx; cases hy
        exact num (intOp_ok ⟨by rintro rfl; simp [intOp] at hs, by rintro rfl; simp [intOp] at hs⟩ hs) (by simp) (by simp)
    · cases h
  · rename_i p q
    cases hs : strOp op p q with
    | none => simp [hs] at h
    | some r =>
      simp only [hs, Option.map_some, Option.some.injEq] at h
      subst h
      cases hx; cases hy
      exact num (strOp_ok hs) (by simp) (by simp)
  · rename_i p q
    split at h
    · rename_i hd
      obtain rfl := Option.some.inj h
      cases hx; cases hy
      refine num ⟨.bool (p == q), fun w => ?_, rfl⟩ (by simp) (by simp)
      simp only [binOp, Sem.run_bind, equal_of fun n => run_equalIn_bool' w n t p q hd, Result.andThen_ok, Sem.run_pure]
    · cases h
  · rename_i p q
    split at h
    · rename_i hd
      obtain rfl := Option.some.inj h
      cases hx; cases hy
      refine num ⟨.bool (!(p == q)), fun w => ?_, rfl⟩ (by simp) (by simp)
      simp only [binOp, Sem.run_bind, equal_of fun n => run_equalIn_bool' w n t p q hd, Result.andThen_ok, Sem.run_pure]
    · cases h
  · have := eqSem_ok (a := a) (ox := ox) (oy := oy) h hx hy
    simpa using this
  · have := eqSem_ok (a := a) (ox := ox) (oy := oy) h hx hy
    simpa using this
  · cases h

theorem unSem_ok {op : UnOp} {x v : AV} {u : Value} (h : unSem op x = some v) (hx : VRel ρ x u) : ∃ r, (∀ w, (Op.unary op u).run P w = .ok r w) ∧ VRel ρ v r := by
  unfold unSem at h
  split at h
  · obtain rfl := Option.some.inj h
    cases hx
    exact ⟨_, fun w => rfl, rfl⟩
  · obtain rfl := Option.some.inj h
    cases hx
    exact ⟨_, fun w => rfl, rfl⟩
  · obtain rfl := Option.some.inj h
    cases hx
    exact ⟨_, fun w => rfl, rfl⟩
  · cases h

end
end Go.Abs
