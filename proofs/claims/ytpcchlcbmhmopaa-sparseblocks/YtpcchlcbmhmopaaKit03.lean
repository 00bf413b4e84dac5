/- Texts on the abstract machine, joined. -/
import Derived.Test.YtpcchlcbmhmopaaKit02
import Derived.Laws.BytesString

/- Each operation of the model comes to what the abstract machine says: '==', the operators, conversions, maps, make. -/
namespace Go.Abs
set_option linter.unusedVariables false
set_option linter.unusedSimpArgs false

section
variable {P : Program} {a : Act} {ρ : Map}

theorem semOk_read {bs : List Nat} {k : List AObj → Option AV} {n : Sem Next}
    (h : ∀ (H : Heap) (w : World) (os : List AObj) (v : AV), Sim P.globals.size ρ H w → mapOpt H.get bs = some os → k os = some v → ∃ u, n.run P w = .ok (.value u) w ∧ VRel ρ v u) : SemOk P a (.read bs k) n ρ := by
  intro H w v H' hs hr _ hwf
  simp only [Sm.run] at hr
  cases hb : mapOpt H.get bs with
  | none => simp [hb] at hr
  | some os =>
    simp only [hb] at hr
    cases hk : k os with
    | none => simp [hk] at hr
    | some x =>
      simp only [hk, Option.some.injEq, Prod.mk.injEq] at hr
      obtain ⟨rfl, rfl⟩ := hr
      obtain ⟨u, hu, hv⟩ := h H w os x hs hb hk
      exact does_pure hs hu hv

theorem mapOpt_one {H : Heap} {b : Nat} {os : List AObj} (h : mapOpt H.get [b] = some os) : ∃ o, H.get b = some o ∧ os = [o] := by
  simp only [mapOpt] at h
  cases hb : H.get b with
  | none => simp [hb] at h
  | some o => simp [hb] at h; exact ⟨o, rfl, h.symm⟩

theorem mapOpt_two {H : Heap} {b c : Nat} {os : List AObj} (h : mapOpt H.get [b, c] = some os) : ∃ o o', H.get b = some o ∧ H.get c = some o' ∧ os = [o, o'] := by
  simp only [mapOpt] at h
  cases hb : H.get b with
  | none => simp [hb] at h
  | some o =>
    cases hc : H.get c with
    | none => simp [hb, hc] at h
    | some o' => simp [hb, hc] at h; exact ⟨o, o', rfl, rfl, h.symm⟩

/-- Values that are neither numbers nor strings. -/
def NoNum (u : Value) : Prop := (∀ k m, u ≠ .int k m) ∧ (∀ s, u ≠ .string s) ∧ (∀ k m, u ≠ .float k m) ∧ (∀ k m i, u ≠ .complex k m i) ∧ u ≠ .nilIface

theorem run_eq {neg : Bool} {t : TypeId} {ox oy : Operand} {u v : Value} {r : Bool} {w : World} (hu : NoNum u) (hagg : (∃ us vs, u = .agg us ∧ v = .agg vs) → P.eqGuardType P.depth t = false)
    (h : (Op.equal t u v).run P w = .ok r w) :
    (do pure (Next.value (← (do eqGuard (if neg then .neq else .eql) t ox oy u v; binOp (if neg then .neq else .eql) t u v))) : Sem Next).run P w = .ok (.value (.bool (r != neg))) w := by
  obtain ⟨h1, h2, h3, h4, h5⟩ := hu
  simp only [Sem.run_bind, eqGuard_ok hagg (fun ⟨e, _⟩ => h5 e) w, Result.andThen_ok]
  rw [run_binOp_eq ⟨fun k m k' n e => h1 k m e.1, fun s s' e => h2 s e.1, fun k m k' n e => h3 k m e.1, fun k m k' n i j e => h4 k m i e.1⟩ w, h]
  rfl

theorem equal_of {t : TypeId} {u v : Value} {r : Bool} {w : World} (h : ∀ n, (Op.equalIn (n + 1) t u v).run P w = .ok r w) : (Op.equal t u v).run P w = .ok r w := h 9999

theorem eqSem_ok {t : TypeId} {x y : AV} {neg : Bool} {s : Sm} {ox oy : Operand} {u v : Value} (h : eqSem P t x y neg = some s) (hx : VRel ρ x u) (hy : VRel ρ y v) :
    SemOk P a s (do pure (Next.value (← (do eqGuard (if neg then .neq else .eql) t ox oy u v; binOp (if neg then .neq else .eql) t u v)))) ρ := by
  unfold eqSem at h
  split at h
  · -- a nil pointer
    rename_i e b hd
    obtain rfl := Option.some.inj h
    cases hx
    cases b with
    | none =>
      cases hy
      refine semOk_pure (u := .bool (true != neg)) (fun w => run_eq ⟨by simp, by simp, by simp, by simp, by simp⟩ (by rintro ⟨us, vs, h, _⟩; cases h) (equal_of fun n => ?_)) rfl
      simp only [Op.equalIn, Sem.run_bind, und_run hd, Result.andThen_ok, Sem.run_pure, Option.isNone_none]
    | some q =>
      obtain ⟨p, hp, rfl⟩ := hy
      refine semOk_pure (u := .bool (false != neg)) (fun w => run_eq ⟨by simp, by simp, by simp, by simp, by simp⟩ (by rintro ⟨us, vs, h, _⟩; cases h) (equal_of fun n => ?_)) rfl
      simp only [Op.equalIn, Sem.run_bind, und_run hd, Result.andThen_ok, Sem.run_pure, Option.isNone_some]
  · -- a pointer against nil
    rename_i e q hd
    obtain rfl := Option.some.inj h
    obtain ⟨p, hp, rfl⟩ := hx
    cases hy
    refine semOk_pure (u := .bool (false != neg)) (fun w => run_eq ⟨by simp, by simp, by simp, by simp, by simp⟩ (by rintro ⟨us, vs, h, _⟩; cases h) (equal_of fun n => ?_)) rfl
    simp only [Op.equalIn, Sem.run_bind, und_run hd, Result.andThen_ok, Sem.run_pure]
  · -- two pointers
    rename_i e q1 q2 hd
    split at h
    · cases h
    · rename_i hz
      obtain ⟨p, hp, rfl⟩ := hx
      obtain ⟨q, hq, rfl⟩ := hy
      split at h
      · rename_i hb
        obtain rfl := Option.some.inj h
        rw [hb, hq] at hp; injection hp with hp; subst hp
        refine semOk_pure (u := .bool ((q1.2 == q2.2) != neg)) (fun w => run_eq ⟨by simp, by simp, by simp, by simp, by simp⟩ (by rintro ⟨us, vs, h, _⟩; cases h) ?_) rfl
        rw [run_equal_pointer hd hz]
        simp only [sameAddr, beq_self_eq_true, if_true, Sem.run_pure]
        congr 1
        rw [Bool.eq_iff_iff]
        simp
      · rename_i hb
        obtain rfl := Option.some.inj h
        refine semOk_read fun H w os v' hs hos hk => ?_
        obtain ⟨o1, o2, h1, h2, rfl⟩ := mapOpt_two hos
        cases hr : eqRead q1 q2 [o1, o2] with
        | none => simp [hr] at hk
        | some r =>
          simp only [hr, Option.some.injEq] at hk
          subst hk
          refine ⟨.bool (false != neg), run_eq ⟨by simp, by simp, by simp, by simp, by simp⟩ (by rintro ⟨us, vs, h, _⟩; cases h) ?_, rfl⟩
          rw [run_equal_pointer hd hz]
          exact sameAddr_apart hs hp hq hb h1 h2 hr
  · -- a nil slice
    rename_i e n1 c1 s1 b n2 c2 s2 hd
    obtain rfl := Option.some.inj h
    obtain ⟨_, _, rfl⟩ := hx
    cases b with
    | none =>
      obtain ⟨_, _, rfl⟩ := hy
      refine semOk_pure (u := .bool (true != neg)) (fun w => run_eq ⟨by simp, by simp, by simp, by simp, by simp⟩ (by rintro ⟨us, vs, h, _⟩; cases h) (equal_of fun n => ?_)) rfl
      simp only [Op.equalIn, Sem.run_bind, und_run hd, Result.andThen_ok, Sem.run_pure, Option.isNone_none]
    | some q =>
      obtain ⟨p, z, c', hp, rfl, _⟩ := hy
      refine semOk_pure (u := .bool (false != neg)) (fun w => run_eq ⟨by simp, by simp, by simp, by simp, by simp⟩ (by rintro ⟨us, vs, h, _⟩; cases h) (equal_of fun n => ?_)) rfl
      simp only [Op.equalIn, Sem.run_bind, und_run hd, Result.andThen_ok, Sem.run_pure, Option.isNone_some]
  · -- a slice against nil
    rename_i e q n1 c1 s1 n2 c2 s2 hd
    obtain rfl := Option.some.inj h
    obtain ⟨p, z, c', hp, rfl, _⟩ := hx
    obtain ⟨_, _, rfl⟩ := hy
    refine semOk_pure (u := .bool (false != neg)) (fun w => run_eq ⟨by simp, by simp, by simp, by simp, by simp⟩ (by rintro ⟨us, vs, h, _⟩; cases h) (equal_of fun n => ?_)) rfl
    simp only [Op.equalIn, Sem.run_bind, und_run hd, Result.andThen_ok, Sem.run_pure]
  · -- a nil map
    rename_i k e b hd
    obtain rfl := Option.some.inj h
    cases hx
    cases b with
    | none =>
      cases hy
      refine semOk_pure (u := .bool (true != neg)) (fun w => run_eq ⟨by simp, by simp, by simp, by simp, by simp⟩ (by rintro ⟨us, vs, h, _⟩; cases h) (equal_of fun n => ?_)) rfl
      simp only [Op.equalIn, Sem.run_bind, und_run hd, Result.andThen_ok, Sem.run_pure, Option.isNone_none]
    | some q =>
      obtain ⟨p, hp, _, rfl⟩ := hy
      refine semOk_pure (u := .bool (false != neg)) (fun w => run_eq ⟨by simp, by simp, by simp, by simp, by simp⟩ (by rintro ⟨us, vs, h, _⟩; cases h) (equal_of fun n => ?_)) rfl
      simp only [Op.equalIn, Sem.run_bind, und_run hd, Result.andThen_ok, Sem.run_pure, Option.isNone_some]
  · rename_i k e q hd
    obtain rfl := Option.some.inj h
    obtain ⟨p, hp, _, rfl⟩ := hx
    cases hy
    refine semOk_pure (u := .bool (false != neg)) (fun w => run_eq ⟨by simp, by simp, by simp, by simp, by simp⟩ (by rintro ⟨us, vs, h, _⟩; cases h) (equal_of fun n => ?_)) rfl
    simp only [Op.equalIn, Sem.run_bind, und_run hd, Result.andThen_ok, Sem.run_pure]
  · rename_i k1 k2 k3 hd
    obtain rfl := Option.some.inj h
    cases hx; cases hy
    refine semOk_pure (u := .bool (true != neg)) (fun w => run_eq ⟨by simp, by simp, by simp, by simp, by simp⟩ (by rintro ⟨us, vs, h, _⟩; cases h) (equal_of fun n => ?_)) rfl
    simp only [Op.equalIn, Sem.run_bind, und_run hd, Result.andThen_ok, Sem.run_pure]
  · rename_i k1 k2 k3 f xs ys hd
    obtain rfl := Option.some.inj h
    cases hx
    obtain ⟨us, vs, rfl, _⟩ := hy
    refine semOk_pure (u := .bool (false != neg)) (fun w => run_eq ⟨by simp, by simp, by simp, by simp, by simp⟩ (by rintro ⟨us, vs, h, _⟩; cases h) (equal_of fun n => ?_)) rfl
    simp only [Op.equalIn, Sem.run_bind, und_run hd, Result.andThen_ok, Sem.run_pure]
  · rename_i k1 k2 k3 f xs ys hd
    obtain rfl := Option.some.inj h
    cases hy
    obtain ⟨us, vs, rfl, _⟩ := hx
    refine semOk_pure (u := .bool (false != neg)) (fun w => run_eq ⟨by simp, by simp, by simp, by simp, by simp⟩ (by rintro ⟨us, vs, h, _⟩; cases h) (equal_of fun n => ?_)) rfl
    simp only [Op.equalIn, Sem.run_bind, und_run hd, Result.andThen_ok, Sem.run_pure]
  all_goals first
    | (rename_i xs ys hd
       split at h
       · cases h
       · rename_i hg
         cases hr : eqA P 8 t (.agg xs) (.agg ys) with
         | none => simp [hr] at h
         | some r =>
           simp only [hr, Option.some.injEq] at h
           subst h
           have he := fun w => eqA_ok (P := P) (ρ := ρ) 8 10000 t _ _ r u v (by omega) hr hx hy w
           obtain ⟨us, rfl, _⟩ := hx
           obtain ⟨vs, rfl, _⟩ := hy
           exact semOk_pure (u := .bool (r != neg)) (fun w => run_eq ⟨by simp, by simp, by simp, by simp, by simp⟩ (fun _ => by simpa using hg) (he w)) rfl)
    | cases h

theorem binSem_ok {op : BinOp} {t : TypeId} {x y : AV} {s : Sm} {ox oy : Operand} {u v : Value} (h : binSem P op t x y = some s) (hx : VRel ρ x u) (hy : VRel ρ y v) :
    SemOk P a s (do pure (Next.value (← (do eqGuard op t ox oy u v; binOp op t u v)))) ρ := by
  have num : ∀ {r : AV} {u v : Value}, (∃ z, (∀ w, (binOp op t u v).run P w = .ok z w) ∧ VRel ρ r z) → (¬ (u = .nilIface ∧ v = .nilIface)) → (¬ ∃ us vs, u = .agg us ∧ v = .agg vs) →
      SemOk P a (.pure r) (do pure (Next.value (← (do eqGuard op t ox oy u v; binOp op t u v)))) ρ := by
    intro r u v ⟨z, hz, hr⟩ h1 h2
    refine semOk_pure (u := z) (fun w => ?_) hr
    simp only [Sem.run_bind, eqGuard_ok (fun h => absurd h h2) h1 w, Result.andThen_ok, hz, Sem.run_pure]
  unfold binSem at h
  split at h
  · rename_i k p k' q
    cases hs : shiftOp .shl k p q with
    | none => simp [hs] at h
    | some r =>
      simp only [hs, Option.map_some, Option.some.injEq] at h
      subst h
      cases hx; cases hy
      exact num (shiftOp_ok hs (.inl rfl)) (by simp) (by simp)
  · rename_i k p k' q
    cases hs : shiftOp .shr k p q with
    | none => simp [hs] at h
    | some r =>
      simp only [hs, Option.map_some, Option.some.injEq] at h
      subst h
      cases hx; cases hy
      exact num (shiftOp_ok hs (.inr rfl)) (by simp) (by simp)
  · rename_i k p k' q hn1 hn2
    split at h
    · rename_i e
      subst e
      cases hs : intOp op k p q with
      | none => simp [hs] at h
      | some r =>
        simp only [hs, Option.map_some, Option.some.injEq] at h
        subst h
        cases hx; cases hy
        exact num (intOp_ok ⟨by rintro rfl; simp [intOp] at hs, by rintro rfl; simp [intOp] at hs⟩ hs) (by simp) (by simp)
    · cases h
  · rename_i p q
    cases hs : strOp op p q with
    | none => simp [hs] at h
    | some r =>
      simp only [hs, Option.map_some, Option.some.injEq] at h
      subst h
      cases hx; cases hy
      exact num (strOp_ok hs) (by simp) (by simp)
  · rename_i p q
    split at h
    · rename_i hd
      obtain rfl := Option.some.inj h
      cases hx; cases hy
      refine num ⟨.bool (p == q), fun w => ?_, rfl⟩ (by simp) (by simp)
      simp only [binOp, Sem.run_bind, equal_of fun n => run_equalIn_bool' w n t p q hd, Result.andThen_ok, Sem.run_pure]
    · cases h
  · rename_i p q
    split at h
    · rename_i hd
      obtain rfl := Option.some.inj h
      cases hx; cases hy
      refine num ⟨.bool (!(p == q)), fun w => ?_, rfl⟩ (by simp) (by simp)
      simp only [binOp, Sem.run_bind, equal_of fun n => run_equalIn_bool' w n t p q hd, Result.andThen_ok, Sem.run_pure]
    · cases h
  · have := eqSem_ok (a := a) (ox := ox) (oy := oy) h hx hy
    simpa using this
  · have := eqSem_ok (a := a) (ox := ox) (oy := oy) h hx hy
    simpa using this
  · cases h

theorem unSem_ok {op : UnOp} {x v : AV} {u : Value} (h : unSem op x = some v) (hx : VRel ρ x u) : ∃ r, (∀ w, (Op.unary op u).run P w = .ok r w) ∧ VRel ρ v r := by
  unfold unSem at h
  split at h
  · obtain rfl := Option.some.inj h
    cases hx
    exact ⟨_, fun w => rfl, rfl⟩
  · obtain rfl := Option.some.inj h
    cases hx
    exact ⟨_, fun w => rfl, rfl⟩
  · obtain rfl := Option.some.inj h
    cases hx
    exact ⟨_, fun w => rfl, rfl⟩
  · cases h

end
end Go.Abs

/- Each operation of the model comes to what the abstract machine says: conversions, maps, make, append, copy, clear, delete. -/
namespace Go.Abs
set_option linter.unusedVariables false
set_option linter.unusedSimpArgs false

section
variable {P : Program} {a : Act} {ρ : Map}

/-! ## conversions -/
theorem cellsOfBytes_rel (ρ : Map) (s : List UInt8) : VRels ρ (cellsOfBytes s) ((⟨s.toArray⟩ : ByteArray).data.map fun b => Value.int .u8 b.toNat).toList := by
  have : ((⟨s.toArray⟩ : ByteArray).data.map fun b => Value.int .u8 b.toNat).toList = s.map fun b => Value.int .u8 b.toNat := by simp
  rw [this]
  exact VRels.map_eq (fun b : UInt8 => AV.int .u8 b.toNat) (fun b : UInt8 => Value.int .u8 b.toNat) (fun _ => rfl) s

theorem heap_drawn (w : World) : ({ w with drawn := w.drawn + 1 } : World).heap = w.heap := rfl

theorem good_drawn {G : Nat} {ρ : Map} {H : Heap} {w : World} (hs : Sim G ρ H w) : Good G ρ H w ρ H { w with drawn := w.drawn + 1 } :=
  Good.same hs rfl rfl rfl rfl

theorem run_capAsk (need old : Nat) (e : TypeId) (w : World) (hn : need < 2 ^ 63) : ∃ c, need ≤ c ∧ (choose (.appendCap need old e)).run P w = .ok c { w with drawn := w.drawn + 1 } := by
  refine ⟨Question.cut (.appendCap need old e) (w.tape w.drawn (.appendCap need old e)), ?_, ?_⟩
  · simp only [Question.cut]; omega
  · rw [run_choose, if_neg (by simp [Question.forced])]

theorem stringToBytes_ok {s : List UInt8} {e : TypeId} (hl : s.length < 2 ^ 63) :
    SemOk P a (.alloc (.cells (cellsOfBytes s) e true true) fun n => .slice (some (n, 0)) s.length s.length (some 1)) (do pure (Next.value (← Conv.stringToBytes e ⟨s.toArray⟩))) ρ := by
  intro H w v' H' hs hr hfree hwf
  simp only [Sm.run, Option.some.injEq, Prod.mk.injEq] at hr
  obtain ⟨rfl, rfl⟩ := hr
  obtain ⟨c, hc, hcap⟩ := run_capAsk (P := P) s.length 0 e w hl
  let w1 : World := { w with drawn := w.drawn + 1 }
  let C : Array Value := ((⟨s.toArray⟩ : ByteArray).data.map fun b => Value.int .u8 b.toNat) ++ Array.replicate (c - s.length) (.int .u8 0)
  have hCs : C.size = c := by simp [C]; omega
  have hsz : (cellsOfBytes s).length = s.length := by simp [cellsOfBytes]
  have hg1 : Good P.globals.size ρ H w ρ H w1 := good_drawn hs
  have hg2 := Good.newCells (e := e) (el := e) (m := true) (fr := (0, 0)) hg1.sim (hfree _ (Nat.le_refl _) (by simp)) (cs := cellsOfBytes s) (C := C) (by
    have h := cellsOfBytes_rel ρ s
    have e1 : C.toList.take (cellsOfBytes s).length = ((⟨s.toArray⟩ : ByteArray).data.map fun b => Value.int .u8 b.toNat).toList := by
      rw [hsz]
      simp only [C, Array.toList_append]
      rw [List.take_left' (by simp)]
    rw [e1]
    exact h) (by rw [hsz, hCs]; exact hc) (.inl rfl)
  have hat : (w1.alloc (.cells C e)).heap[w.heap.size]? = some (.cells C e (0, 0)) := by
    show (w.heap.push _)[w.heap.size]? = _
    simp
  have hg3 := Good.marked (p := ⟨w.heap.size, 0, C.size⟩) hg2.sim (by rw [Heap.get_push, if_pos rfl]) (upd_same _ _ _) hat
  refine does_value (u := .slice (some ⟨w.heap.size, 0, none⟩) s.length c) (w' := (w1.alloc (.cells C e)).freeze { block := w.heap.size, off := C.size } 1) ?_
    (((hg1.trans hg2).trans hg3).congr (fun x => by simp only [Heap.get_set, Heap.get_push]; split <;> rfl) rfl) ?_
  · apply run_v
    simp only [Conv.stringToBytes, Sem.run_bind, str_size, hcap, Result.andThen_ok, newRow, run_newObj, Sem.run_pure]
    simp only [markStringish, Sem.run_bind, run_shape]
    have hsh : (World.shape? { w1 with heap := w1.heap.push (.cells C e) } w.heap.size) = some (e, C.size) := by
      have : ({ w1 with heap := w1.heap.push (.cells C e) } : World).heap[w.heap.size]? = some (.cells C e (0, 0)) := hat
      simp only [World.shape?, this]
    show Result.andThen (Result.andThen (Result.ok (World.shape? { w1 with heap := w1.heap.push (.cells C e) } w.heap.size) { w1 with heap := w1.heap.push (.cells C e) }) _) _ = _
    rw [hsh]
    rfl
  · exact ⟨⟨w.heap.size, 0, C.size⟩, _, c, by simpa using upd_same _ _ _, rfl, Nat.le_refl _, hc, .inr rfl, .inr ⟨1, rfl, by simp [hCs]⟩⟩

theorem bytesOfCells_ints : ∀ {cs : List AV} {s : List UInt8}, bytesOfCells cs = some s → ∃ ns : List Int, cs = ns.map (AV.int .u8) ∧ s = ns.map fun n => UInt8.ofNat n.toNat
  | [], s, h => by simp only [bytesOfCells, Option.some.injEq] at h; subst h; exact ⟨[], rfl, rfl⟩
  | c :: r, s, h => by
    unfold bytesOfCells at h
    split at h
    · rename_i heq; cases heq
    · rename_i n r' heq
      injection heq with e1 e2
      subst e1; subst e2
      cases hr : bytesOfCells r with
      | none => simp [hr] at h
      | some bs =>
        simp only [hr, Option.some.injEq] at h
        obtain ⟨ns, e1, e2⟩ := bytesOfCells_ints hr
        exact ⟨n :: ns, by simp [e1], by rw [← h, e2]; rfl⟩
    · cases h

theorem foldl_push (l : List Int) (s : List UInt8) : (l.foldl (fun (r : ByteArray) n => r.push (UInt8.ofNat n.toNat)) ⟨s.toArray⟩) = ⟨(s ++ l.map fun n => UInt8.ofNat n.toNat).toArray⟩ := by
  induction l generalizing s with
  | nil => simp
  | cons n l ih =>
    simp only [List.foldl_cons, List.map_cons]
    have : (⟨s.toArray⟩ : ByteArray).push (UInt8.ofNat n.toNat) = ⟨(s ++ [UInt8.ofNat n.toNat]).toArray⟩ := by
      apply ByteArray.ext
      simp
    rw [this, ih]
    simp

theorem vrels_ints {ρ : Map} {ns : List Int} {us : List Value} (h : VRels ρ (ns.map (AV.int .u8)) us) : us = ns.map (Value.int .u8) := by
  induction ns generalizing us with
  | nil => exact h
  | cons n ns ih =>
    obtain ⟨y, ys, rfl, hy, hys⟩ := h
    cases hy
    rw [ih hys]
    rfl

theorem conv_ok {src dst : TypeId} {x : AV} {s : Sm} {u : Value} (h : convSem P src dst x = some s) (hx : VRel ρ x u) : SemOk P a s (do pure (Next.value (← convert src dst u))) ρ := by
  unfold convSem at h
  split at h
  · rename_i d1 k k' n hs hd
    obtain rfl := Option.some.inj h
    cases hx
    refine semOk_pure (u := .int k (k.wrap n)) (fun w => run_v _ _ _ _ ?_) rfl
    cases d1 <;> simp [convert, und_run hs, und_run hd, Conv.intToInt]
  · rename_i d1 t hs hd
    obtain rfl := Option.some.inj h
    cases hx
    refine semOk_pure (u := .string ⟨t.toArray⟩) (fun w => run_v _ _ _ _ ?_) rfl
    cases d1 <;> simp [convert, und_run hs, und_run hd]
  · rename_i d1 e t hs hd
    split at h
    · rename_i he
      split at h
      · rename_i hle
        obtain rfl := Option.some.inj h
        cases hx
        have hl : t.length < 2 ^ 63 := by have := hle.2; omega
        have := stringToBytes_ok (P := P) (a := a) (ρ := ρ) (s := t) (e := e) hl
        intro H w v' H' hs' hr hf hwf
        have hdo := this H w v' H' hs' hr hf (by intro k e; cases e)
        unfold Does Delivers at *
        have : (do pure (Next.value (← convert src dst (Value.string ⟨t.toArray⟩))) : Sem Next).run P w = (do pure (Next.value (← Conv.stringToBytes e ⟨t.toArray⟩)) : Sem Next).run P w := by
          cases d1 <;> simp [convert, und_run hs, und_run hd, und_run he]
        rw [this]
        exact hdo
      · cases h
    · cases h
  · rename_i e1 e q n c sl hs hd
    split at h
    · rename_i hsd
      obtain ⟨hsd, hcp⟩ := hsd
      subst hsd
      split at h
      · rename_i he
        obtain rfl := Option.some.inj h
        intro H w v' H' hsim hr _ hwf
        simp only [Sm.run] at hr
        cases hg : H.get q.1 with
        | none => simp [hg] at hr
        | some o =>
          cases o with
          | map _ => simp [hg] at hr
          | dead => simp [hg] at hr
          | cells cs el own mk =>
            cases own with
            | false => simp [hg] at hr
            | true =>
              simp only [hg, Option.some.injEq, Prod.mk.injEq] at hr
              obtain ⟨rfl, rfl⟩ := hr
              obtain ⟨p, y, c', hp, rfl, r⟩ := hx
              have r' := r
              obtain ⟨_, hcc, e3, _⟩ := r'
              have e3 : y = _ := e3.resolve_left (by omega)
              have e3 : y.block = p.blk := by rw [e3]
              obtain ⟨p1, C, el', fr, hp1, hh, _⟩ := hsim.obj _ _ hg
              rw [hp] at hp1; injection hp1 with hp1; subst hp1
              have hgood := Good.marked hsim hg hp hh
              refine does_value (run_v _ _ _ (.slice (some y) n c') ?_) hgood ⟨p, y, c', hp, rfl, r⟩
              have hsh : w.shape? p.blk = some (el', C.size) := by simp [World.shape?, hh]
              simp only [convert, Sem.run_bind, und_run hd, Result.andThen_ok, und_run he, beq_self_eq_true, markStringish, run_shape, run_freeze, Sem.run_pure, e3, hsh]
      · cases h
    · cases h
  · rename_i e q n c sl hs hd
    split at h
    · rename_i he
      obtain rfl := Option.some.inj h
      obtain ⟨_, _, rfl⟩ := hx
      refine semOk_pure (u := .string .empty) (fun w => run_v _ _ _ _ ?_) rfl
      simp [convert, und_run hs, und_run hd, und_run he, Conv.bytesToString]
    · rename_i b o he
      obtain rfl := Option.some.inj h
      refine semOk_read fun H w os v' hsim hos hk => ?_
      obtain ⟨ob, hob, rfl⟩ := mapOpt_one hos
      cases ob with
      | map _ => simp at hk
      | dead => simp at hk
      | cells cs el own mk =>
        simp only [] at hk
        split at hk
        · rename_i hle
          cases hb : bytesOfCells ((cs.drop o).take n) with
          | none => simp [hb] at hk
          | some bs =>
            simp only [hb, Option.map_some, Option.some.injEq] at hk
            subst hk
            obtain ⟨ns, e1, e2⟩ := bytesOfCells_ints hb
            obtain ⟨p, y, c', hp, rfl, g1, g2, g5, _⟩ := hx
            have hrun : (loadCells y n).run P w = .ok (ns.map (Value.int .u8)).toArray w := by
              by_cases hn : n = 0
              · subst hn
                have : ns = [] := by simpa using e1.symm
                subst this
                simp [loadCells, loadCellsFrom]
              · obtain ⟨p1, C, el', fr, hp1, hh, hcr, _⟩ := hsim.obj _ _ hob
                rw [hp] at hp1; injection hp1 with hp1; subst hp1
                have hy : y = ⟨p.blk, p.off + o, none⟩ := by
                  rcases g5 with g5 | g5
                  · omega
                  · exact g5
                subst hy
                obtain ⟨us, hu, hrel⟩ := cells_read (P := P) hh hcr o n hle
                rw [e1] at hrel
                rw [hu]
                congr 1
                apply Array.ext'
                rw [vrels_ints hrel]
            refine ⟨.string (ns.foldl (fun r n => r.push (UInt8.ofNat n.toNat)) ByteArray.empty), run_v _ _ _ _ ?_, ?_⟩
            · simp only [convert, Sem.run_bind, und_run hs, und_run hd, Result.andThen_ok, und_run he]
              exact run_bytesToString w y n c' ns hrun
            · have := foldl_push ns []
              simp only [List.nil_append] at this
              show Value.string _ = Value.string _
              rw [e2, ← this]
              rfl
        · cases hk
    · cases h
  · cases h

end
end Go.Abs

/- Each operation of the model comes to what the abstract machine says: maps, make. -/
namespace Go.Abs
set_option linter.unusedVariables false
set_option linter.unusedSimpArgs false

section
variable {P : Program} {a : Act} {ρ : Map}

/-! ## keys -/
theorem checkKey_ok {key : TypeId} {k : AV} {u : Value} {empty : Bool} (hf : keyFits P key k = true) (hk : VRel ρ k u) (w : World) : (Instr.checkKey empty 10000 key u).run P w = .ok () w := by
  show (Instr.checkKey empty (9999 + 1) key u).run P w = .ok () w
  generalize 9999 = n
  unfold keyFits at hf
  split at hf
  · split at hf
    · rename_i hd
      cases hk
      simp [Instr.checkKey, und_run hd]
    · cases hf
  · split at hf
    · rename_i hd
      cases hk
      simp [Instr.checkKey, und_run hd]
    · cases hf
  · split at hf
    · rename_i hd
      cases hk
      simp [Instr.checkKey, und_run hd]
    · cases hf
  · cases hf

theorem und_of_fits {key : TypeId} {k : AV} (hf : keyFits P key k = true) : ∃ d, P.underlying key = some d := by
  unfold keyFits at hf
  split at hf <;> first
    | (split at hf
       · rename_i h; exact ⟨_, h⟩
       · cases hf)
    | cases hf

theorem sameNow_ok {key : TypeId} {d : TypeDesc} {k x : AV} {u v : Value} {b : Bool} (hf : keyFits P key k = true) (hd : P.underlying key = some d) (hk : VRel ρ k u) (hx : VRel ρ x v) (h : keyEq k x = some b) :
    Instr.sameNow d u v = some b ∧ (b = true → Instr.sameBits 10000 v u = true) := by
  unfold keyEq at h
  unfold keyFits at hf
  split at h
  · rename_i k1 p k2 q
    split at h
    · rename_i e
      obtain rfl := Option.some.inj h
      subst e
      cases hk; cases hx
      simp only [hd] at hf
      cases d <;> simp at hf
      refine ⟨by simp [Instr.sameNow], fun hb => ?_⟩
      simp at hb
      subst hb
      show Instr.sameBits (9999 + 1) _ _ = true
      simp [Instr.sameBits]
    · cases h
  · rename_i p q
    obtain rfl := Option.some.inj h
    cases hk; cases hx
    simp only [hd] at hf
    cases d <;> simp at hf
    refine ⟨by simp [Instr.sameNow, bytes_beq], fun hb => ?_⟩
    simp at hb
    subst hb
    show Instr.sameBits (9999 + 1) _ _ = true
    simp [Instr.sameBits, bytes_beq]
  · rename_i p q
    obtain rfl := Option.some.inj h
    cases hk; cases hx
    simp only [hd] at hf
    cases d <;> simp at hf
    refine ⟨by simp [Instr.sameNow], fun hb => ?_⟩
    simp at hb
    subst hb
    show Instr.sameBits (9999 + 1) _ _ = true
    simp [Instr.sameBits]
  · cases h

/-- What a look-up finds. -/
def FRel (ρ : Map) (ms : List MapEntry) (i0 : Nat) (u : Value) : Option (Nat × AV) → Option (Nat × Value) → Prop
  | none, none => True
  | some (i, x), some (j, v) => i = j ∧ VRel ρ x v ∧ ∃ e, ms[i - i0]? = some e ∧ i0 ≤ i ∧ e.val = v ∧ Instr.sameBits 10000 e.key u = true
  | _, _ => False

theorem find_ok {key : TypeId} {d : TypeDesc} {k : AV} {u : Value} (hf : keyFits P key k = true) (hd : P.underlying key = some d) (hk : VRel ρ k u) : ∀ {es : List (AV × AV)} {ms : List MapEntry} {i : Nat} {r : Option (Nat × AV)}, KRels ρ es ms → findA k es i = some r →
    ∃ r', Instr.findNow d u ms i = some r' ∧ FRel ρ ms i u r r'
  | [], ms, i, r, h, hr => by
    cases h
    simp only [findA, Option.some.injEq] at hr
    subst hr
    exact ⟨none, rfl, trivial⟩
  | (x, v) :: es, ms, i, r, ⟨e, ms', hm, hx, hv, hs⟩, hr => by
    subst hm
    simp only [findA] at hr
    cases hq : keyEq k x with
    | none => simp [hq] at hr
    | some b =>
      obtain ⟨hs1, hs2⟩ := sameNow_ok hf hd hk hx hq
      cases b with
      | true =>
        simp only [hq, Option.some.injEq] at hr
        subst hr
        exact ⟨some (i, e.val), by simp [Instr.findNow, hs1], rfl, hv, e, by simp, Nat.le_refl _, rfl, hs2 rfl⟩
      | false =>
        simp only [hq] at hr
        obtain ⟨r', h1, h2⟩ := find_ok hf hd hk hs hr
        refine ⟨r', by simp [Instr.findNow, hs1, h1], ?_⟩
        cases r with
        | none => cases r' with
          | none => trivial
          | some _ => exact h2.elim
        | some p =>
          cases r' with
          | none => obtain ⟨_, _⟩ := p; exact h2.elim
          | some q =>
            obtain ⟨i1, x1⟩ := p
            obtain ⟨j1, v1⟩ := q
            obtain ⟨e1, e2, y, e3, e4, e5, e6⟩ := h2
            refine ⟨e1, e2, y, ?_, by omega, e5, e6⟩
            rw [show i1 - i = (i1 - (i + 1)) + 1 by omega]
            simpa using e3

theorem getObj_map {w : World} {B : Nat} {m : Array MapEntry} {k : Nat} (h : w.heap[B]? = some (.map m k)) : (getObj B).run P w = .ok (.map m k) w := by
  simp [getObj, Sem.run, h]

theorem setObj_map {w : World} {B : Nat} {m m' : Array MapEntry} {k k' : Nat} (h : w.heap[B]? = some (.map m k)) :
    (setObj B (.map m' k')).run P w = .ok () { w with heap := w.heap.setIfInBounds B (.map m' k') } := by
  simp [setObj, Sem.run, h]

theorem lookup_ok {t : TypeId} {x k : AV} {ok : Bool} {s : Sm} {ux uk : Value} (h : lookupSem P t x k ok = some s) (hx : VRel ρ x ux) (hk : VRel ρ k uk) :
    SemOk P a s (do pure (Next.value (← Instr.lookup t ux uk ok))) ρ := by
  unfold lookupSem at h
  split at h
  · rename_i key elem hd
    split at h
    · rename_i hf
      obtain ⟨dk, hdk⟩ := und_of_fits hf
      split at h
      · rename_i z hz
        obtain rfl := Option.some.inj h
        obtain ⟨zu, hzu, hzr⟩ := tzero_run hz
        cases hx
        have hrun : ∀ w, (Instr.lookup t (.map none) uk ok).run P w = .ok (if ok then .tuple #[zu, .bool false] else zu) w := by
          intro w
          simp only [Instr.lookup, Sem.run_bind, und_run hd, Result.andThen_ok, Sem.run_pure, checkKey_ok hf hk, Instr.findKey, und_run hdk]
          simp [Instr.findNow, hzu]
        refine semOk_pure (fun w => run_v _ _ _ _ (hrun w)) ?_
        cases ok
        · exact hzr ρ
        · exact ⟨_, rfl, _, _, rfl, hzr ρ, _, _, rfl, rfl, rfl⟩
      · rename_i z r hz
        obtain rfl := Option.some.inj h
        obtain ⟨zu, hzu, hzr⟩ := tzero_run hz
        refine semOk_read fun H w os v' hsim hos hkk => ?_
        obtain ⟨ob, hob, rfl⟩ := mapOpt_one hos
        obtain ⟨p, hp, h0, rfl⟩ := hx
        cases ob with
        | cells _ _ _ _ => simp at hkk
        | dead => simp at hkk
        | map es =>
          simp only [] at hkk
          obtain ⟨p1, m, clk, hp1, _, _, hh, hkr⟩ := hsim.obj _ _ hob
          rw [hp] at hp1; injection hp1 with hp1; subst hp1
          cases hfd : findA k es 0 with
          | none => simp [hfd] at hkk
          | some fr =>
            obtain ⟨r', hn, hfr⟩ := find_ok (i := 0) hf hdk hk hkr hfd
            cases fr with
            | none =>
              simp only [hfd, Option.some.injEq] at hkk
              subst hkk
              cases r' with
              | some _ => exact hfr.elim
              | none =>
                refine ⟨if ok then .tuple #[zu, .bool false] else zu, run_v _ _ _ _ ?_, ?_⟩
                · simp only [Instr.lookup, Sem.run_bind, und_run hd, Result.andThen_ok, getObj_map hh, Sem.run_pure, checkKey_ok hf hk, Instr.findKey, und_run hdk, hn]
                  simp [hzu]
                · cases ok
                  · exact hzr ρ
                  · exact ⟨_, rfl, _, _, rfl, hzr ρ, _, _, rfl, rfl, rfl⟩
            | some q =>
              obtain ⟨i1, x1⟩ := q
              simp only [hfd, Option.some.injEq] at hkk
              subst hkk
              cases r' with
              | none => exact hfr.elim
              | some q' =>
                obtain ⟨j1, v1⟩ := q'
                obtain ⟨_, hv1, _⟩ := hfr
                refine ⟨if ok then .tuple #[v1, .bool true] else v1, run_v _ _ _ _ ?_, ?_⟩
                · simp only [Instr.lookup, Sem.run_bind, und_run hd, Result.andThen_ok, getObj_map hh, Sem.run_pure, checkKey_ok hf hk, Instr.findKey, und_run hdk, hn]
                · cases ok
                  · exact hv1
                  · exact ⟨_, rfl, _, _, rfl, hv1, _, _, rfl, rfl, rfl⟩
      · cases h
    · cases h
  · cases h

/-! ## maps changed -/
theorem KRels.length {ρ : Map} : ∀ {es : List (AV × AV)} {ms : List MapEntry}, KRels ρ es ms → ms.length = es.length
  | [], _, h => by cases h; rfl
  | (_, _) :: _, _, ⟨_, _, h, _, _, r⟩ => by subst h; simp [KRels.length r]

theorem KRels.append {ρ : Map} : ∀ {es : List (AV × AV)} {ms : List MapEntry} {k v : AV} {e : MapEntry}, KRels ρ es ms → VRel ρ k e.key → VRel ρ v e.val → KRels ρ (es ++ [(k, v)]) (ms ++ [e])
  | [], _, _, _, e, h, hk, hv => by cases h; exact ⟨e, [], rfl, hk, hv, rfl⟩
  | (_, _) :: _, _, _, _, _, ⟨x, xs, h, a, b, r⟩, hk, hv => by subst h; exact ⟨x, _, rfl, a, b, KRels.append r hk hv⟩

theorem KRels.modify {ρ : Map} : ∀ {es : List (AV × AV)} {ms : List MapEntry} {i : Nat} {k v : AV} {f : MapEntry → MapEntry}, KRels ρ es ms → (∀ e, VRel ρ k (f e).key ∧ VRel ρ v (f e).val) → KRels ρ (es.set i (k, v)) (ms.modify i f)
  | [], _, i, _, _, _, h, _ => by cases h; simp [KRels]
  | (_, _) :: _, _, 0, _, _, f, ⟨x, xs, h, a, b, r⟩, g => by subst h; exact ⟨f x, xs, by simp, (g x).1, (g x).2, r⟩
  | (_, _) :: _, _, i + 1, _, _, f, ⟨x, xs, h, a, b, r⟩, g => by subst h; exact ⟨x, _, by simp, a, b, KRels.modify r g⟩

theorem KRels.erase {ρ : Map} : ∀ {es : List (AV × AV)} {ms : List MapEntry} {i : Nat}, KRels ρ es ms → KRels ρ (es.eraseIdx i) (ms.eraseIdx i)
  | [], _, i, h => by cases h; simp [KRels]
  | (_, _) :: _, _, 0, ⟨x, xs, h, a, b, r⟩ => by subst h; simpa using r
  | (_, _) :: _, _, i + 1, ⟨x, xs, h, a, b, r⟩ => by subst h; exact ⟨x, _, by simp, a, b, KRels.erase r⟩

theorem update_ok {t : TypeId} {m k v : AV} {s : Sm} {um uk uv : Value} (h : updateSem P t m k v = some s) (hm : VRel ρ m um) (hk : VRel ρ k uk) (hv : VRel ρ v uv) :
    SemOk P a s (do Instr.mapUpdate t um uk uv; pure Next.skip) ρ := by
  unfold updateSem at h
  split at h
  · rename_i key elem r hd
    split at h
    · rename_i hf
      obtain ⟨dk, hdk⟩ := und_of_fits hf
      obtain rfl := Option.some.inj h
      intro H w v' H' hsim hr _ hwf
      simp only [Sm.run] at hr
      obtain ⟨p, hp, h0, rfl⟩ := hm
      cases hob : H.get r with
      | none => simp [hob] at hr
      | some ob =>
        cases ob with
        | cells _ _ _ _ => simp [hob] at hr
        | dead => simp [hob] at hr
        | map es =>
          simp only [hob] at hr
          obtain ⟨p1, ms, clk, hp1, _, _, hh, hkr⟩ := hsim.obj _ _ hob
          rw [hp] at hp1; injection hp1 with hp1; subst hp1
          cases hfd : findA k es 0 with
          | none => simp [hfd] at hr
          | some fr =>
            obtain ⟨r', hn, hfr⟩ := find_ok (i := 0) hf hdk hk hkr hfd
            cases fr with
            | none =>
              simp only [hfd, Option.some.injEq, Prod.mk.injEq] at hr
              obtain ⟨rfl, rfl⟩ := hr
              cases r' with
              | some _ => exact hfr.elim
              | none =>
                refine does_skip (run_u _ _ _ ?_) (Good.mapped (ms' := ms.push { key := uk, val := uv, born := clk }) (k' := clk + 1) hsim hob hp hh ?_)
                · simp only [Instr.mapUpdate, Sem.run_bind, und_run hd, Result.andThen_ok, getObj_map hh, checkKey_ok hf hk, Instr.findKey, und_run hdk, hn, Sem.run_pure, setObj_map hh]
                · simp only [Array.toList_push]
                  exact hkr.append hk hv
            | some q =>
              obtain ⟨i1, x1⟩ := q
              simp only [hfd, Option.some.injEq, Prod.mk.injEq] at hr
              obtain ⟨rfl, rfl⟩ := hr
              cases r' with
              | none => exact hfr.elim
              | some q' =>
                obtain ⟨j1, v1⟩ := q'
                obtain ⟨rfl, hv1, e, he1, _, he3, he4⟩ := hfr
                have hei : ms[i1]? = some e := by simpa using he1
                refine does_skip (run_u _ _ _ ?_) (Good.mapped (ms' := ms.modify i1 fun e => { e with key := uk, val := uv }) (k' := clk) hsim hob hp hh ?_)
                · simp only [Instr.mapUpdate, Sem.run_bind, und_run hd, Result.andThen_ok, getObj_map hh, checkKey_ok hf hk, Instr.findKey, und_run hdk, hn, Sem.run_pure, hei, Option.map_some, Option.getD_some, Instr.keyThatStays, he4, if_true, setObj_map hh]
                · rw [Array.toList_modify]
                  exact hkr.modify (fun e => ⟨hk, hv⟩)
    · cases h
  · cases h

theorem delete_ok {ts : Array TypeId} {m k : AV} {s : Sm} {ty : TypeId} {um uk : Value} (h : deleteSem P ts m k = some s) (hm : VRel ρ m um) (hk : VRel ρ k uk) :
    SemOk P a s (do pure (Next.value (← Builtin.delete_ ts ty #[um, uk]))) ρ := by
  unfold deleteSem at h
  split at h
  · cases h
  · rename_i t ht
    split at h
    · rename_i key elem hd
      split at h
      · rename_i hf
        obtain rfl := Option.some.inj h
        cases hm
        refine semOk_pure (u := .tuple #[]) (fun w => run_v _ _ _ _ ?_) ⟨#[], rfl, rfl⟩
        simp [Builtin.delete_, ht, und_run hd, checkKey_ok hf hk]
      · cases h
    · rename_i key elem r hd
      split at h
      · rename_i hf
        obtain ⟨dk, hdk⟩ := und_of_fits hf
        obtain rfl := Option.some.inj h
        intro H w v' H' hsim hr _ hwf
        simp only [Sm.run] at hr
        obtain ⟨p, hp, h0, rfl⟩ := hm
        cases hob : H.get r with
        | none => simp [hob] at hr
        | some ob =>
          cases ob with
          | cells _ _ _ _ => simp [hob] at hr
          | dead => simp [hob] at hr
          | map es =>
            simp only [hob] at hr
            obtain ⟨p1, ms, clk, hp1, _, _, hh, hkr⟩ := hsim.obj _ _ hob
            rw [hp] at hp1; injection hp1 with hp1; subst hp1
            cases hfd : findA k es 0 with
            | none => simp [hfd] at hr
            | some fr =>
              obtain ⟨r', hn, hfr⟩ := find_ok (i := 0) hf hdk hk hkr hfd
              cases fr with
              | none =>
                simp only [hfd, Option.some.injEq, Prod.mk.injEq] at hr
                obtain ⟨rfl, rfl⟩ := hr
                cases r' with
                | some _ => exact hfr.elim
                | none =>
                  refine does_value (u := .tuple #[]) (run_v _ _ _ _ ?_) ((Good.mapped (ms' := ms) (k' := clk) hsim hob hp hh hkr).congr (fun x => (set_self_get hob x).symm) rfl) ⟨#[], rfl, rfl⟩
                  simp [Builtin.delete_, ht, und_run hd, getObj_map hh, checkKey_ok hf hk, Instr.findKey, und_run hdk, hn, setObj_map hh]
              | some q =>
                obtain ⟨i1, x1⟩ := q
                simp only [hfd, Option.some.injEq, Prod.mk.injEq] at hr
                obtain ⟨rfl, rfl⟩ := hr
                cases r' with
                | none => exact hfr.elim
                | some q' =>
                  obtain ⟨j1, v1⟩ := q'
                  obtain ⟨rfl, hv1, e, he1, _, he3, he4⟩ := hfr
                  refine does_value (u := .tuple #[]) (run_v _ _ _ _ ?_) (Good.mapped (ms' := ms.eraseIdxIfInBounds i1) (k' := clk) hsim hob hp hh ?_) ⟨#[], rfl, rfl⟩
                  · simp [Builtin.delete_, ht, und_run hd, getObj_map hh, checkKey_ok hf hk, Instr.findKey, und_run hdk, hn, setObj_map hh]
                  · rw [Array.toList_eraseIdxIfInBounds]
                    exact hkr.erase
      · cases h
    · cases h

theorem makeMap_ok {t : TypeId} {u : Option Value} (ht : ∃ k e, P.underlying t = some (.map k e)) (hu : ∀ x, u = some x → ∃ k n, x = .int k n) :
    SemOk P a (.alloc (.map []) fun n => .map (some n)) (do pure (Next.value (← Instr.makeMap t u))) ρ := by
  intro H w v' H' hs hr hfree hwf
  simp only [Sm.run, Option.some.injEq, Prod.mk.injEq] at hr
  obtain ⟨rfl, rfl⟩ := hr
  have hg : Good P.globals.size ρ H w (upd ρ H.next ⟨w.heap.size, 0, 1⟩) (H.push (.map [])) (w.alloc (.map #[] 0)) := by
    refine Good.push hs (hfree _ (Nat.le_refl _) (by simp)) ⟨_, #[], 0, upd_same _ _ _, rfl, rfl, push_at _, rfl⟩ rfl
  refine does_value (u := .map (some w.heap.size)) ?_ hg ⟨_, upd_same _ _ _, rfl, rfl⟩
  apply run_v
  obtain ⟨k, e, hd⟩ := ht
  cases u with
  | none => simp [Instr.makeMap]
  | some x =>
    obtain ⟨k, n, rfl⟩ := hu x rfl
    simp [Instr.makeMap, und_run hd, asInt, asIntOf]

/-! ## make -/
theorem wrap_same {x : Int} (h0 : 0 ≤ x) (h : x ≤ 2 ^ 62) : IntKind.i64.wrap x = x := by
  simp only [IntKind.wrap, IntKind.bits, IntKind.signed]
  have : x % 2 ^ 64 = x := Int.emod_eq_of_lt h0 (by omega)
  simp only [this]
  rw [if_neg (by simp; omega)]

theorem makeSlice_ok {t : TypeId} {l c : AV} {s : Sm} {ul uc : Value} (h : makeSliceSem P t l c = some s) (hl : VRel ρ l ul) (hc : VRel ρ c uc) :
    SemOk P a s (do pure (Next.value (← Instr.makeSlice t ul uc))) ρ := by
  unfold makeSliceSem at h
  split at h
  · rename_i elem k1 l k2 c hd
    split at h
    · rename_i bytes size z hb hn hz
      split at h
      · rename_i hc'
        obtain ⟨c1, c2, c3, c4, c5⟩ := hc'
        obtain rfl := Option.some.inj h
        obtain ⟨zu, hzu, hzr⟩ := tzero_run hz
        cases hl; cases hc
        cases hi : P.info? elem with
        | none => simp [tsz, hi] at hn
        | some i =>
          have hib : i.bytes = bytes := by simpa [tbytes, hi] using hb
          have hzc := (hzr ρ).cells
          have hzl := hzc.length
          simp at hzl
          let C : Array Value := (Array.range (c.toNat * size)).map (zu.cells[· % zu.cells.size]!)
          have hCs : C.size = c.toNat * size := by simp [C]
          refine semOk_newRow (C := C) (el := elem) (u := fun B => .slice (some ⟨B, 0, none⟩) l.toNat c.toNat) (fun w => run_v _ _ _ _ ?_) ?_ ?_
          · have hl2 : IntKind.i64.wrap l = l := wrap_same c1 (by omega)
            have hc2 : IntKind.i64.wrap c = c := wrap_same (by omega) (by omega)
            have t1 : (decide (c < 0) || decide ((bytes : Int) * c > 2 ^ 48) || decide (l < 0) || decide (l > c)) = false := by simp; omega
            simp only [Instr.makeSlice, Sem.run_bind, und_run hd, Result.andThen_ok, asInt, asIntOf, Sem.run_pure, tinfo_run hi, hl2, hc2, hib]
            rw [if_neg (by rw [t1]; simp)]
            by_cases h0 : c.toNat * size = 0
            · have e : C = #[] := by
                apply Array.eq_empty_of_size_eq_zero
                rw [hCs, h0]
              simp [run_askRoom, tsz_run hn, h0, newRow, e]
              congr 2
              exact Array.eq_empty_of_size_eq_zero (by simp)
            · simp [run_askRoom, tsz_run hn, h0, newRow, hzu, C]
          · have := zeros_rel hzc c.toNat (.inr trivial)
            rw [c5] at this
            exact this
          · intro ρ' b B hB
            exact ⟨_, _, _, hB, rfl, by omega, Nat.le_refl _, .inr (by simp), .inl rfl⟩
      · cases h
    · cases h
  · cases h

end
end Go.Abs

/- Each operation of the model comes to what the abstract machine says: append, copy, clear, len, cap, max, min. -/
namespace Go.Abs
set_option linter.unusedVariables false
set_option linter.unusedSimpArgs false

section
variable {P : Program} {a : Act} {ρ : Map}

theorem Sim.heap_eq {G : Nat} {ρ : Map} {H : Heap} {w w' : World} (hs : Sim G ρ H w) (h : w'.heap = w.heap) : Sim G ρ H w' := hs.congr (fun _ => rfl) h

/-- What is appended or copied, read. -/
theorem src_ok {G : Nat} {H : Heap} {w : World} (hs : Sim G ρ H w) {size n : Nat} {x : AV} {cs : List AV} {u : Value} (h : srcCells H size n x = some cs) (hx : VRel ρ x u) :
    ∃ us : Array Value, (∀ w', w'.heap = w.heap → (Builtin.firstCells size n u).run P w' = .ok us w') ∧ VRels ρ cs us.toList := by
  unfold srcCells at h
  split at h
  · obtain rfl := Option.some.inj h
    obtain ⟨_, _, rfl⟩ := hx
    exact ⟨#[], fun w' _ => rfl, rfl⟩
  · rename_i b o len c sl
    obtain ⟨p, y, c', hp, rfl, g1, g2, g5, _⟩ := hx
    split at h
    · rename_i h0
      obtain rfl := Option.some.inj h
      exact ⟨#[], fun w' _ => by simp [Builtin.firstCells, h0, loadCells, loadCellsFrom], rfl⟩
    · rename_i h0
      split at h
      · rename_i hle
        unfold cellsAt at h
        split at h
        · rename_i c1 e1 o1 m1 hg
          split at h
          · rename_i hfit
            obtain rfl := Option.some.inj h
            obtain ⟨p1, C, el, fr, hp1, hh, hcr, _⟩ := hs.obj _ _ hg
            rw [hp] at hp1; injection hp1 with hp1; subst hp1
            have hn : n ≠ 0 := by rintro rfl; simp at h0
            have hy : y = ⟨p.blk, p.off + o, none⟩ := by
              rcases g5 with g5 | g5
              · omega
              · exact g5
            subst hy
            obtain ⟨us, hu, hrel⟩ := cells_reads (P := P) (B := p.blk) (e := el) (fr := fr) hcr o (n * size) hfit
            exact ⟨us, fun w' hw => hu w' (by rw [hw]; exact hh), hrel⟩
          · cases h
        · cases h
      · cases h
  · rename_i s
    obtain rfl := Option.some.inj h
    cases hx
    refine ⟨(((⟨s.toArray⟩ : ByteArray).extract 0 n).data.map fun b => Value.int .u8 b.toNat), fun w' _ => rfl, ?_⟩
    have := cellsOfBytes_rel ρ (s.take n)
    have e : ((⟨s.toArray⟩ : ByteArray).extract 0 n) = ⟨(s.take n).toArray⟩ := by
      apply ByteArray.ext
      simp only [ByteArray.data_extract]
      apply Array.ext'
      simp [Array.toList_extract, List.extract_eq_take_drop]
    rw [e]
    exact this
  · cases h


/-! ## append -/
theorem growBy_le : ∀ (r n c : Nat), c < n + (n + 768) / 4 + 1 → Builtin.growBy n r c ≤ n + (n + 768) / 4
  | 0, n, c, h => by simp only [Builtin.growBy]; omega
  | r + 1, n, c, h => by
    simp only [Builtin.growBy]
    split
    · omega
    · exact growBy_le r n _ (by omega)

theorem nextslicecap_le (need cap : Nat) (h : cap < need) : Builtin.nextslicecap need cap ≤ 3 * need := by
  unfold Builtin.nextslicecap
  split
  · omega
  · split
    · omega
    · have := growBy_le 4 need cap (by omega)
      omega

theorem nextslicecap_zero (need : Nat) (h : 0 < need) : Builtin.nextslicecap need 0 = need := by
  unfold Builtin.nextslicecap
  rw [if_pos (by omega)]

theorem growFits_ok {need c c' bytes : Nat} {known : Bool} (h : growFits need c bytes known = true) (hk : known = true → c' = c) (hlt : c' < need) :
    need ≤ 2 ^ 62 ∧ Builtin.nextslicecap need c' * bytes ≤ 2 ^ 48 := by
  unfold growFits at h
  simp only [Bool.and_eq_true, Bool.or_eq_true, decide_eq_true_eq, beq_iff_eq] at h
  obtain ⟨h1, h2⟩ := h
  refine ⟨h1, ?_⟩
  rcases h2 with ⟨h2, h3⟩ | ⟨⟨h2, h3⟩, h4⟩
  · have := nextslicecap_le need c' hlt
    calc Builtin.nextslicecap need c' * bytes ≤ 3 * need * bytes := Nat.mul_le_mul_right _ this
      _ = 3 * (need * bytes) := by rw [Nat.mul_assoc]
      _ ≤ 2 ^ 48 := by omega
  · rw [hk h2, h3, nextslicecap_zero need (by omega)]
    exact h4

/-- The abstract machine drops a block. -/
theorem Good.kill {G : Nat} {ρ : Map} {H : Heap} {w : World} (hs : Sim G ρ H w) {b : Nat} {o : AObj} (hg : H.get b = some o) : Good G ρ H w ρ (H.set b .dead) w := by
  have hget : ∀ x y, (H.set b .dead).get x = some y → y = .dead ∨ H.get x = some y := by
    intro x y h
    rw [Heap.get_set] at h
    split at h
    · injection h with h; exact .inl h.symm
    · exact .inr h
  refine ⟨⟨?_, ?_, hs.glob⟩, Ext.refl ρ, fun _ _ => rfl, Nat.le_refl _, ?_, ?_, ?_⟩
  · intro x y h
    rcases hget x y h with rfl | h
    · trivial
    · exact hs.obj x y h
  · intro x x' y y' p p' h h' hne hl hw hp hp'
    rcases hget x y h with rfl | h
    · simp [AObj.live] at hl
    · rcases hget x' y' h' with rfl | h'
      · simp [AObj.own] at hw
      · exact hs.apart x x' y y' p p' h h' hne hl hw hp hp'
  · intro x hx _
    rw [Heap.get_set]
    split
    · rename_i e; subst e; rw [hg] at hx; exact absurd hx (by simp)
    · exact hx
  · intro x y h hl hw
    rcases hget x y h with rfl | h
    · cases hl
    · exact h
  · refine ⟨Nat.le_refl _, fun B o h _ => h, ?_, rfl, rfl, rfl⟩
    rintro B ⟨x, y, p, hx, hy, hp, rfl⟩
    rcases hget x y hx with rfl | hx
    · simp [AObj.own] at hy
    · exact .inr ⟨x, y, p, hx, hy, hp, rfl⟩

/-- What appendA says, way by way. -/
theorem appendA_cases {elem : TypeId} {size bytes : Nat} {base : Option (Nat × Nat)} {sLen sCap : Nat} {sl : Option Nat} {n : Nat} {new : List AV} {H H' : Heap} {v : AV}
    (h : appendA elem size bytes base sLen sCap sl n new H = some (v, H')) :
    (sLen + n ≤ sCap ∧ ((base = none ∧ v = .slice none 0 0 none ∧ H' = H) ∨ ∃ b o, base = some (b, o) ∧ writeCells H b (o + sLen * size) new = some H' ∧ v = .slice (some (b, o)) (sLen + n) sCap sl)) ∨
    (sCap < sLen + n ∧ growFits (sLen + n) sCap bytes (base.isNone || sl.isNone) = true ∧ ∃ old, srcCells H size sLen (.slice base sLen sCap sl) = some old ∧
      v = .slice (some (H.next, 0)) (sLen + n) (sLen + n) (some size) ∧
      (((base = none ∨ sl = none) ∧ H' = H.push (.cells (old ++ new) elem true false)) ∨
       ∃ b o c e, base = some (b, o) ∧ sl = some size ∧ H.get b = some (.cells c e true false) ∧ o + sLen * size ≤ c.length ∧ new.all AV.one = true ∧ H' = (H.set b .dead).push (.cells (old ++ new) elem true false))) := by
  unfold appendA at h
  split at h
  · rename_i hle
    refine .inl ⟨hle, ?_⟩
    split at h
    · simp only [Option.some.injEq, Prod.mk.injEq] at h
      exact .inl ⟨rfl, h.1.symm, h.2.symm⟩
    · rename_i b o
      split at h
      · rename_i H1 hw
        simp only [Option.some.injEq, Prod.mk.injEq] at h
        obtain ⟨rfl, rfl⟩ := h
        exact .inr ⟨b, o, rfl, hw, rfl⟩
      · cases h
  · rename_i hgt
    split at h
    · rename_i hg
      refine .inr ⟨by omega, hg, ?_⟩
      split at h
      · cases h
      · rename_i old ho
        refine ⟨old, ho, ?_⟩
        split at h
        · rename_i b o s
          split at h
          · rename_i c e hc
            split at h
            · rename_i hcond
              simp only [Option.some.injEq, Prod.mk.injEq] at h
              obtain ⟨rfl, rfl⟩ := h
              obtain ⟨rfl, h2, h3⟩ := hcond
              exact ⟨rfl, .inr ⟨b, o, c, e, rfl, rfl, hc, h2, h3, rfl⟩⟩
            · cases h
          · cases h
        · rename_i hne
          simp only [Option.some.injEq, Prod.mk.injEq] at h
          obtain ⟨rfl, rfl⟩ := h
          refine ⟨rfl, .inl ⟨?_, rfl⟩⟩
          cases base with
          | none => exact .inl rfl
          | some b => cases sl with
            | none => exact .inr rfl
            | some s => exact (hne _ _ _ rfl rfl).elim
    · cases h

/-- The world's append where there is room. -/
theorem append_room {elem : TypeId} {size bytes : Nat} {base : Option (Nat × Nat)} {sLen sCap : Nat} {sl : Option Nat} {n : Nat} {new : List AV} {H H' : Heap} {v : AV} {w : World}
    (hsim : Sim P.globals.size ρ H w) {b' : Option Addr} {c' : Nat} (hs : VRel ρ (.slice base sLen sCap sl) (.slice b' sLen c')) (hnew : new.length = n * size)
    (hfree : ∀ b, H.next ≤ b → b < H'.next → ρ b = none) (h : appendA elem size bytes base sLen sCap sl n new H = some (v, H')) (hroom : sLen + n ≤ c') {une : List Value} (hrel : VRels ρ new une) :
    ∃ w' ρ', (match b' with | some a => storeCells (a.add (sLen * size)) une | none => pure () : Sem Unit).run P w = .ok () w' ∧ Good P.globals.size ρ H w ρ' H' w' ∧ VRel ρ' v (.slice b' (sLen + n) c') := by
  rcases appendA_cases h with ⟨hle, hh⟩ | ⟨hgt, hgf, old, ho, rfl, hh⟩
  · rcases hh with ⟨rfl, rfl, rfl⟩ | ⟨b, o, rfl, hw, rfl⟩
    · obtain ⟨e1, e2, e3⟩ := hs
      injection e3 with e4 e5 e6
      subst e4; subst e1; subst e2; subst e6
      have : n = 0 := by omega
      subst this
      exact ⟨w, ρ, rfl, Good.refl hsim, rfl, rfl, rfl⟩
    · obtain ⟨p, y, c1, hp, e, g1, g2, g5, g6⟩ := hs
      injection e with e1 e2 e3
      subst e1; subst e3
      by_cases hz : new = []
      · subst hz
        cases hrel
        simp only [writeCells, Option.some.injEq] at hw
        subst hw
        exact ⟨w, ρ, rfl, Good.refl hsim, p, y, c', hp, rfl, hle, g2, g5, g6⟩
      · have hc0 : c' ≠ 0 := by
          rintro rfl
          have : n = 0 := by omega
          subst this
          exact hz (List.eq_nil_of_length_eq_zero (by simpa using hnew))
        have hy : y = ⟨p.blk, p.off + o, none⟩ := by
          rcases g5 with g5 | g5
          · exact absurd g5 hc0
          · exact g5
        subst hy
        obtain ⟨w', hr, hg⟩ := writeCells_run (P := P) hsim hp hw hrel
        refine ⟨w', ρ, ?_, hg, p, _, c', hp, rfl, hle, g2, .inr rfl, g6⟩
        simp only [addr_add]
        rw [Nat.add_assoc]
        exact hr
  · rcases hh with ⟨hbs, rfl⟩ | ⟨b, o, c, e, rfl, rfl, hc, hfit, h1, rfl⟩
    · exfalso
      cases base with
      | none =>
        obtain ⟨e1, e2, e3⟩ := hs
        injection e3 with e4 e5 e6
        omega
      | some q =>
        obtain ⟨p, y, c1, hp, e, g1, g2, g5, g6⟩ := hs
        injection e with e1 e2 e3
        subst e3
        rcases hbs with hbs | rfl
        · cases hbs
        · rcases g6 with g6 | ⟨s, hs', _⟩
          · omega
          · cases hs'
    · obtain ⟨p, y, c1, hp, e', g1, g2, g5, g6⟩ := hs
      injection e' with e1 e2 e3
      subst e1; subst e3
      have hy : y = ⟨p.blk, p.off + o, none⟩ := by
        rcases g5 with g5 | g5
        · omega
        · exact g5
      subst hy
      have hslack : o + c' * size ≤ p.tot := by
        rcases g6 with g6 | ⟨s, hs', g6⟩
        · omega
        · injection hs' with hs'; subst hs'; exact g6
      have hold : old = (c.drop o).take (sLen * size) := by
        simp only [srcCells] at ho
        split at ho
        · rename_i h0
          obtain rfl := Option.some.inj ho
          rw [h0]; simp
        · simp only [Nat.le_refl, if_true, cellsAt, hc] at ho
          rw [if_pos hfit] at ho
          exact (Option.some.inj ho).symm
      have holdl : old.length = sLen * size := by rw [hold]; simp; omega
      have hrt := Good.retarget (e2 := elem) hsim (hfree _ (Nat.le_refl _) (by simp)) hc hp hfit
      rw [← hold] at hrt
      have hmul : (sLen + n) * size ≤ c' * size := Nat.mul_le_mul_right _ hroom
      rw [Nat.add_mul] at hmul
      obtain ⟨w', hr, hg⟩ := cells_extended (P := P) (upd_same ρ H.next ⟨p.blk, p.off + o, p.tot - o⟩) new une (sLen * size) 0 hrt.sim (by rw [Heap.get_push, Heap.next_set, if_pos rfl]) (by omega) (by simp only []; omega) (VRels.mono hrt.ext _ _ hrel) h1
      refine ⟨w', _, ?_, (hrt.trans hg).congr ?_ rfl, ⟨p.blk, p.off + o, p.tot - o⟩, _, c', upd_same _ _ _, rfl, Nat.le_refl _, hroom, .inr rfl, .inr ⟨size, rfl, by simp only []; omega⟩⟩
      · simp only [addr_add]
        exact hr
      · intro x
        simp only [Heap.get_set, Heap.get_push, Heap.next_set]
        split <;> rfl

/-- The world's append into a new array. -/
theorem append_new {elem : TypeId} {size bytes : Nat} {base : Option (Nat × Nat)} {sLen sCap : Nat} {sl : Option Nat} {n : Nat} {new : List AV} {H H' : Heap} {v : AV} {w : World}
    (hsim : Sim P.globals.size ρ H w) {b' : Option Addr} {c' : Nat} (hs : VRel ρ (.slice base sLen sCap sl) (.slice b' sLen c')) (hnew : new.length = n * size)
    (hfree : ∀ b, H.next ≤ b → b < H'.next → ρ b = none) (h : appendA elem size bytes base sLen sCap sl n new H = some (v, H')) (hroom : c' < sLen + n) {une : Array Value} (hrel : VRels ρ new une.toList) :
    (sLen + n ≤ 2 ^ 62 ∧ Builtin.nextslicecap (sLen + n) c' * bytes ≤ 2 ^ 48) ∧
    ∃ uold : Array Value, (∀ w', w'.heap = w.heap → (Builtin.firstCells size sLen (.slice b' sLen c')).run P w' = .ok uold w') ∧
    ∀ (newCap : Nat) (rest : Array Value), sLen + n ≤ newCap → rest.size = (newCap - (sLen + n)) * size →
    ∃ ρ', Good P.globals.size ρ H w ρ' H' (({ w with drawn := w.drawn + 1 } : World).alloc (.cells (uold ++ une ++ rest) elem)) ∧ VRel ρ' v (.slice (some ⟨w.heap.size, 0, none⟩) (sLen + n) newCap) := by
  have hcc : sCap ≤ c' ∧ ((base.isNone || sl.isNone) = true → c' = sCap) := by
    cases base with
    | none =>
      obtain ⟨e1, e2, e3⟩ := hs
      injection e3 with e4 e5 e6
      exact ⟨by omega, fun _ => by omega⟩
    | some q =>
      obtain ⟨p, y, c1, hp, e, g1, g2, g5, g6⟩ := hs
      injection e with e1 e2 e3
      subst e3
      refine ⟨g2, fun hk => ?_⟩
      rcases g6 with g6 | ⟨s, hs', _⟩
      · exact g6
      · subst hs'; simp at hk
  rcases appendA_cases h with ⟨hle, hh⟩ | ⟨hgt, hgf, old, ho, rfl, hh⟩
  · omega
  · refine ⟨growFits_ok hgf hcc.2 hroom, ?_⟩
    obtain ⟨uold, hu, hur⟩ := src_ok (P := P) hsim ho hs
    refine ⟨uold, hu, fun newCap rest hcap hrest => ?_⟩
    have hall := hur.append hrel
    have hun : (uold ++ une).toList.length = (old ++ new).length := by rw [Array.toList_append]; exact hall.length
    have hol : (old ++ new).length = (sLen + n) * size := by
      have : old.length = sLen * size := by
        cases base with
        | none =>
          simp only [srcCells, Option.some.injEq] at ho
          subst ho
          obtain ⟨e1, _, _⟩ := hs
          simp [e1]
        | some q =>
          simp only [srcCells] at ho
          split at ho
          · rename_i h0
            obtain rfl := Option.some.inj ho
            simp [h0]
          · simp only [Nat.le_refl, if_true, cellsAt] at ho
            split at ho
            · split at ho
              · obtain rfl := Option.some.inj ho
                simp; omega
              · cases ho
            · cases ho
      rw [List.length_append, this, hnew, Nat.add_mul]
    have hsize : (uold ++ une ++ rest).size = newCap * size := by
      have h1 : (uold ++ une).size = (sLen + n) * size := by
        have := hun
        rw [hol] at this
        simpa using this
      rw [Array.size_append, h1, hrest, ← Nat.add_mul]
      congr 1
      omega
    have htake : ((uold ++ une ++ rest).toList.take (old ++ new).length) = (uold ++ une).toList := by
      rw [Array.toList_append, ← hun, List.take_left]
    have hmul : (sLen + n) * size ≤ newCap * size := Nat.mul_le_mul_right _ hcap
    rcases hh with ⟨hbs, rfl⟩ | ⟨b, o, c, e, rfl, rfl, hc, hfit, h1, rfl⟩
    · have hg1 := good_drawn hsim
      have hg2 := Good.newCells (e := elem) (el := elem) (m := false) (fr := (0, 0)) hg1.sim (hfree _ (Nat.le_refl _) (by simp)) (cs := old ++ new) (C := uold ++ une ++ rest)
        (by rw [htake, Array.toList_append]; exact hall) (by rw [hsize, hol]; exact hmul) (.inl rfl)
      refine ⟨_, hg1.trans hg2, ⟨w.heap.size, 0, (uold ++ une ++ rest).size⟩, _, newCap, upd_same _ _ _, rfl, Nat.le_refl _, hcap, .inr rfl, .inr ⟨size, rfl, by rw [hsize]; simp⟩⟩
    · have hg0 := Good.kill hsim hc
      have hg1 := good_drawn hg0.sim
      have hg2 := Good.newCells (e := elem) (el := elem) (m := false) (fr := (0, 0)) hg1.sim (hfree _ (Nat.le_refl _) (by simp)) (cs := old ++ new) (C := uold ++ une ++ rest)
        (by rw [htake, Array.toList_append]; exact hall) (by rw [hsize, hol]; exact hmul) (.inl rfl)
      refine ⟨_, (hg0.trans hg1).trans hg2, ⟨w.heap.size, 0, (uold ++ une ++ rest).size⟩, _, newCap, upd_same _ _ _, rfl, Nat.le_refl _, hcap, .inr rfl, .inr ⟨size, rfl, by rw [hsize]; simp⟩⟩

end
end Go.Abs

/- Each operation of the model comes to what the abstract machine says: the builtins, by the model's own text. -/
namespace Go.Abs
set_option linter.unusedVariables false
set_option linter.unusedSimpArgs false

section
variable {P : Program} {a : Act} {ρ : Map}

theorem lenOf_ok {x : AV} {n : Nat} {u : Value} (h : srcLen x = some n) (hx : VRel ρ x u) (w : World) : (Builtin.lenOf u).run P w = .ok n w := by
  unfold srcLen at h
  split at h
  · rename_i b n' c sl
    obtain rfl := Option.some.inj h
    cases b with
    | none => obtain ⟨e1, _, rfl⟩ := hx; subst e1; rfl
    | some q => obtain ⟨p, y, c', _, rfl, _⟩ := hx; rfl
  · rename_i s
    obtain rfl := Option.some.inj h
    cases hx
    simp [Builtin.lenOf, str_size]
  · cases h

theorem slice_form {base : Option (Nat × Nat)} {sLen sCap : Nat} {sl : Option Nat} {u : Value} (h : VRel ρ (.slice base sLen sCap sl) u) : ∃ b' c', u = .slice b' sLen c' := by
  cases base with
  | none => obtain ⟨e1, _, rfl⟩ := h; subst e1; exact ⟨none, 0, rfl⟩
  | some q => obtain ⟨p, y, c', _, rfl, _⟩ := h; exact ⟨some y, c', rfl⟩

theorem zeroCells_ok {z : AV} {zu : Value} {size : Nat} (hzl : z.cells.length = size) (hr : VRel ρ z zu) (n : Nat) : VRels ρ (zeros z.cells n) (Builtin.zeroCells zu.cells n).toList := by
  have h := hr.cells.length
  simp at h
  have := zeros_rel hr.cells n (.inr trivial)
  unfold Builtin.zeroCells
  rw [← h] at this
  exact this

theorem size_zeroCells (zc : Array Value) (n : Nat) : (Builtin.zeroCells zc n).size = n * zc.size := by simp [Builtin.zeroCells]

theorem append_ok {ts : Array TypeId} {ty : TypeId} {s x : AV} {sm : Sm} {us ux : Value} (h : appendSem P ts s x = some sm) (hs : VRel ρ s us) (hx : VRel ρ x ux) :
    SemOk P a sm (do pure (Next.value (← Builtin.append_ ts ty #[us, ux]))) ρ := by
  unfold appendSem at h
  split at h
  · cases h
  rename_i t ht
  split at h
  case h_2 => cases h
  rename_i elem hd
  split at h
  case h_2 => cases h
  rename_i size bytes z base sLen sCap sl hn hb hz
  split at h
  · cases h
  rename_i hzl
  simp only [ne_eq, Decidable.not_not] at hzl
  cases hi : P.info? elem with
  | none => simp [tsz, hi] at hn
  | some i =>
    have hib : i.bytes = bytes := by simpa [tbytes, hi] using hb
    obtain ⟨zu, hzu, hzr⟩ := tzero_run hz
    have hzul : zu.cells.size = size := by
      have := (hzr ρ).cells.length
      simp at this
      omega
    obtain ⟨b', c', rfl⟩ := slice_form hs
    have himax : IntKind.i64.max = 9223372036854775807 := by decide
    by_cases hN : isCount P ts[1]? = true
    · -- so many zeros
      rw [if_pos hN] at h
      split at h
      case h_2 => cases h
      rename_i k l
      split at h
      case isFalse => cases h
      rename_i hl
      obtain ⟨l0, l1, l2⟩ := hl
      obtain rfl := Option.some.inj h
      cases hx
      have hwl : IntKind.i64.wrap l = l := wrap_same l0 (by omega)
      intro H w v H' hsim hr hfree hwf
      simp only [Sm.run] at hr
      have hnew : (zeros z.cells l.toNat).length = l.toNat * size := by rw [length_zeros, hzl]
      have happ : ∀ w' : World, (if l.toNat * size = 0 then pure #[] else do pure (Builtin.zeroCells (← zeroValue elem).cells l.toNat) : Sem (Array Value)).run P w' = .ok (Builtin.zeroCells zu.cells l.toNat) w' := by
        intro w'
        by_cases h0 : l.toNat * size = 0
        · have : Builtin.zeroCells zu.cells l.toNat = #[] := Array.eq_empty_of_size_eq_zero (by rw [size_zeroCells, hzul, h0])
          simp [h0, this]
        · simp [h0, hzu]
      have hrel := zeroCells_ok (ρ := ρ) hzl (hzr ρ) l.toNat
      have hlb : ¬ (l * (bytes : Int) > 2 ^ 48) := by omega
      have hl0 : ¬ (l < 0) := by omega
      obtain ⟨u1, kk, hu1, hd1⟩ : ∃ u kk, ts[1]? = some u ∧ P.underlying u = some (.int kk) := by
        unfold isCount at hN
        split at hN
        · rename_i u hu
          split at hN
          · rename_i k' hd'
            exact ⟨u, _, hu, hd'⟩
          · cases hN
        · cases hN
      by_cases hroom : sLen + l.toNat ≤ c'
      · obtain ⟨w', ρ', hst, hg, hv⟩ := append_room (P := P) hsim hs hnew hfree hr hroom hrel
        refine does_value (u := .slice b' (sLen + l.toNat) c') (run_v _ _ w' _ ?_) hg hv
        simp only [Builtin.append_, ht, hu1, Sem.run_bind, Result.andThen_ok, und_run hd, und_run hd1, tsz_run hn, Sem.run_pure, List.getElem?_toArray, List.getElem?_cons_zero, List.getElem?_cons_succ, asInt, asIntOf, if_true, hwl]
        rw [if_neg hl0]
        simp only [Sem.run_bind, Sem.run_pure, Result.andThen_ok, tinfo_run hi, hib, hwl]
        rw [if_neg hlb]
        simp only [Sem.run_bind, Sem.run_pure, Result.andThen_ok]
        rw [if_pos hroom]
        simp only [Sem.run_bind, Bool.not_true, Bool.false_eq_true, if_false]
        rw [happ w]
        simp only [Result.andThen_ok]
        cases b' with
        | none =>
          simp only [Sem.run_pure] at hst ⊢
          injection hst with _ e
          rw [e]
        | some y =>
          simp only [Sem.run_bind] at hst ⊢
          rw [hst]
          rfl
      · obtain ⟨⟨g1, g2⟩, uold, hu, hall⟩ := append_new (P := P) hsim hs hnew hfree hr (by omega) hrel
        obtain ⟨nc, hnc, hask⟩ := run_capAsk (P := P) (sLen + l.toNat) c' elem w (by omega)
        obtain ⟨ρ', hg, hv⟩ := hall nc (Builtin.zeroCells zu.cells (nc - (sLen + l.toNat))) hnc (by rw [size_zeroCells, hzul])
        refine does_value (run_v _ _ _ _ ?_) hg hv
        have hbig : ¬ (((sLen + l.toNat : Nat) : Int) > IntKind.i64.max ∧ (True ∨ bytes = 0)) := by rw [himax]; omega
        simp only [Builtin.append_, ht, hu1, Sem.run_bind, Result.andThen_ok, und_run hd, und_run hd1, tsz_run hn, Sem.run_pure, List.getElem?_toArray, List.getElem?_cons_zero, List.getElem?_cons_succ, asInt, asIntOf, if_true, hwl]
        rw [if_neg hl0]
        simp only [Sem.run_bind, Sem.run_pure, Result.andThen_ok, tinfo_run hi, hib, hwl]
        rw [if_neg hlb]
        simp only [Sem.run_bind, Sem.run_pure, Result.andThen_ok]
        rw [if_neg hroom]
        simp only [Sem.run_bind, Sem.run_pure, Result.andThen_ok, tinfo_run hi, hib]
        rw [if_neg hbig]
        simp only [Sem.run_bind, Sem.run_pure, Result.andThen_ok, tinfo_run hi, hib]
        rw [if_neg (by omega)]
        simp only [Sem.run_bind, hask, Result.andThen_ok, tinfo_run hi, run_askRoom, Bool.not_true, Bool.false_eq_true, if_false]
        rw [hu _ (heap_drawn w)]
        simp only [Result.andThen_ok, happ, hzu, newRow, Sem.run_bind, run_newObj, Sem.run_pure]
        rfl
    · -- what a slice or a string holds
      rw [if_neg hN] at h
      split at h
      case h_2 => cases h
      rename_i u1 hu1
      split at h
      case h_2 => cases h
      rename_i d1 n hd1 hln
      obtain rfl := Option.some.inj h
      intro H w v H' hsim hr hfree hwf
      simp only [Sm.run] at hr
      cases hsrc : srcCells H size n x with
      | none => simp [hsrc] at hr
      | some new =>
        simp only [hsrc] at hr
        split at hr
        case isFalse => cases hr
        rename_i hnew
        obtain ⟨une, happ, hrel⟩ := src_ok (P := P) hsim hsrc hx
        have hlen := fun w => lenOf_ok (P := P) hln hx w
        have hni : ∀ kk, d1 ≠ .int kk := by
          rintro kk rfl
          apply hN
          rw [hu1]
          simp [isCount, hd1]
        have hz0 : ∀ (zf : Bool), zf = false → (zf = true) = False := by intro zf h; simp [h]
        by_cases hroom : sLen + n ≤ c'
        · obtain ⟨w', ρ', hst, hg, hv⟩ := append_room (P := P) hsim hs hnew hfree hr hroom hrel
          refine does_value (u := .slice b' (sLen + n) c') (run_v _ _ w' _ ?_) hg hv
          simp only [Builtin.append_, ht, hu1, Sem.run_bind, Result.andThen_ok, und_run hd, und_run hd1, tsz_run hn, Sem.run_pure, List.getElem?_toArray, List.getElem?_cons_zero, List.getElem?_cons_succ]
          cases d1 <;> first
            | exact absurd rfl (hni _)
            | (simp only [Bool.false_eq_true, if_false, Sem.run_bind, hlen, Result.andThen_ok]
               rw [if_pos hroom]
               simp only [Sem.run_bind, Bool.not_false, if_true]
               rw [happ w rfl]
               simp only [Result.andThen_ok]
               cases b' with
               | none =>
                 simp only [Sem.run_pure] at hst ⊢
                 injection hst with _ e
                 rw [e]
               | some y =>
                 simp only [Sem.run_bind] at hst ⊢
                 rw [hst]
                 rfl)
        · obtain ⟨⟨g1, g2⟩, uold, hu, hall⟩ := append_new (P := P) hsim hs hnew hfree hr (by omega) hrel
          obtain ⟨nc, hnc, hask⟩ := run_capAsk (P := P) (sLen + n) c' elem w (by omega)
          obtain ⟨ρ', hg, hv⟩ := hall nc (Builtin.zeroCells zu.cells (nc - (sLen + n))) hnc (by rw [size_zeroCells, hzul])
          refine does_value (run_v _ _ _ _ ?_) hg hv
          have hbig : ¬ (((sLen + n : Nat) : Int) > IntKind.i64.max) := by rw [himax]; omega
          simp only [Builtin.append_, ht, hu1, Sem.run_bind, Result.andThen_ok, und_run hd, und_run hd1, tsz_run hn, Sem.run_pure, List.getElem?_toArray, List.getElem?_cons_zero, List.getElem?_cons_succ]
          cases d1 <;> first
            | exact absurd rfl (hni _)
            | (simp only [Bool.false_eq_true, if_false, Sem.run_bind, hlen, Result.andThen_ok]
               rw [if_neg hroom]
               simp only [Sem.run_bind, Sem.run_pure, Result.andThen_ok, tinfo_run hi, hib]
               rw [if_neg (fun h => hbig h.1)]
               simp only [Sem.run_bind, Sem.run_pure, Result.andThen_ok, tinfo_run hi, hib]
               rw [if_neg (by omega)]
               simp only [Sem.run_bind, hask, Result.andThen_ok, tinfo_run hi, run_askRoom, Bool.not_false, if_true]
               rw [hu _ (heap_drawn w)]
               simp only [Result.andThen_ok]
               rw [happ _ (heap_drawn w)]
               simp only [Result.andThen_ok, hzu, newRow, Sem.run_bind, run_newObj, Sem.run_pure]
               rfl)

end
end Go.Abs

/- Each operation of the model comes to what the abstract machine says: the rest of the builtins, and all operations together. -/
namespace Go.Abs
set_option linter.unusedVariables false
set_option linter.unusedSimpArgs false

section
variable {P : Program} {a : Act} {ρ : Map}

theorem copy_ok {ts : Array TypeId} {ty : TypeId} {d x : AV} {sm : Sm} {ud ux : Value} (h : copySem P ts d x = some sm) (hd : VRel ρ d ud) (hx : VRel ρ x ux) :
    SemOk P a sm (do pure (Next.value (← Builtin.copy_ ts ty #[ud, ux]))) ρ := by
  unfold copySem at h
  split at h
  · cases h
  rename_i t ht
  split at h
  case h_2 => cases h
  rename_i elem base dLen dCap sl m hdt hln
  split at h
  case h_2 => cases h
  rename_i size hn
  obtain rfl := Option.some.inj h
  intro H w v H' hsim hr hfree hwf
  simp only [Sm.run] at hr
  cases hsrc : srcCells H size (Nat.min m dLen) x with
  | none => simp [hsrc] at hr
  | some cells =>
    simp only [hsrc] at hr
    split at hr
    · cases hr
    rename_i hlen
    simp only [ne_eq, Decidable.not_not] at hlen
    obtain ⟨une, happ, hrel⟩ := src_ok (P := P) hsim hsrc hx
    have hl := lenOf_ok (P := P) hln hx w
    cases base with
    | none =>
      simp only [Option.some.injEq, Prod.mk.injEq] at hr
      obtain ⟨rfl, rfl⟩ := hr
      obtain ⟨e1, _, rfl⟩ := hd
      subst e1
      refine does_value (u := .int .i64 (Nat.min m 0 : Nat)) (run_v _ _ w _ ?_) (Good.refl hsim) rfl
      simp only [Builtin.copy_, ht, Sem.run_bind, Result.andThen_ok, und_run hdt, hl, tsz_run hn, List.getElem?_toArray, List.getElem?_cons_zero, List.getElem?_cons_succ, happ w rfl, Sem.run_pure, goInt]
    | some q =>
      obtain ⟨b, o⟩ := q
      simp only [] at hr
      cases hw : writeCells H b o cells with
      | none => simp [hw] at hr
      | some H1 =>
        simp only [hw, Option.some.injEq, Prod.mk.injEq] at hr
        obtain ⟨rfl, rfl⟩ := hr
        obtain ⟨p, y, c', hp, rfl, g1, g2, g5, g6⟩ := hd
        by_cases hz : cells = []
        · subst hz
          have hune : une = #[] := by
            have := hrel
            simp only [VRels] at this
            exact Array.ext' this
          subst hune
          simp only [writeCells, Option.some.injEq] at hw
          subst hw
          refine does_value (u := .int .i64 (Nat.min m dLen : Nat)) (run_v _ _ w _ ?_) (Good.refl hsim) rfl
          simp only [Builtin.copy_, ht, Sem.run_bind, Result.andThen_ok, und_run hdt, hl, tsz_run hn, List.getElem?_toArray, List.getElem?_cons_zero, List.getElem?_cons_succ, happ w rfl, Sem.run_pure, goInt, storeCells]
        · have hy : y = ⟨p.blk, p.off + o, none⟩ := by
            rcases g5 with g5 | g5
            · exfalso
              apply hz
              apply List.eq_nil_of_length_eq_zero
              have : dLen = 0 := by omega
              rw [hlen, this]
              simp
            · exact g5
          subst hy
          obtain ⟨w', hrun, hg⟩ := writeCells_run (P := P) hsim hp hw hrel
          refine does_value (u := .int .i64 (Nat.min m dLen : Nat)) (run_v _ _ w' _ ?_) hg rfl
          simp only [Builtin.copy_, ht, Sem.run_bind, Result.andThen_ok, und_run hdt, hl, tsz_run hn, List.getElem?_toArray, List.getElem?_cons_zero, List.getElem?_cons_succ, happ w rfl, Sem.run_pure, goInt, hrun]

theorem clear_ok {ts : Array TypeId} {ty : TypeId} {x : AV} {sm : Sm} {ux : Value} (h : clearSem P ts x = some sm) (hx : VRel ρ x ux) :
    SemOk P a sm (do pure (Next.value (← Builtin.clear_ ts ty #[ux]))) ρ := by
  unfold clearSem at h
  split at h
  · cases h
  rename_i t ht
  split at h
  · rename_i d1 hd
    obtain rfl := Option.some.inj h
    cases hx
    refine semOk_pure (u := .tuple #[]) (fun w => run_v _ _ _ _ ?_) ⟨#[], rfl, rfl⟩
    cases d1 <;> simp [Builtin.clear_, ht, und_run hd]
  · rename_i d1 n c sl hd
    obtain rfl := Option.some.inj h
    obtain ⟨e1, e2, rfl⟩ := hx
    refine semOk_pure (u := .tuple #[]) (fun w => run_v _ _ _ _ ?_) ⟨#[], rfl, rfl⟩
    cases d1 <;> simp [Builtin.clear_, ht, und_run hd]
  · rename_i k e r hd
    obtain rfl := Option.some.inj h
    intro H w v' H' hsim hr _ hwf
    simp only [Sm.run] at hr
    obtain ⟨p, hp, h0, rfl⟩ := hx
    cases hob : H.get r with
    | none => simp [hob] at hr
    | some ob =>
      cases ob with
      | cells _ _ _ _ => simp [hob] at hr
      | dead => simp [hob] at hr
      | map es =>
        simp only [hob, Option.some.injEq, Prod.mk.injEq] at hr
        obtain ⟨rfl, rfl⟩ := hr
        obtain ⟨p1, ms, clk, hp1, _, _, hh, hkr⟩ := hsim.obj _ _ hob
        rw [hp] at hp1; injection hp1 with hp1; subst hp1
        refine does_value (u := .tuple #[]) (run_v _ _ _ _ ?_) (Good.mapped (ms' := #[]) (k' := clk) hsim hob hp hh rfl) ⟨#[], rfl, rfl⟩
        simp [Builtin.clear_, ht, und_run hd, getObj_map hh, setObj_map hh]
  · rename_i elem b o n c sl hd
    split at h
    · rename_i h0
      obtain rfl := Option.some.inj h
      subst h0
      obtain ⟨p, y, c', hp, rfl, _⟩ := hx
      refine semOk_pure (u := .tuple #[]) (fun w => run_v _ _ _ _ ?_) ⟨#[], rfl, rfl⟩
      simp [Builtin.clear_, ht, und_run hd]
    · rename_i h0
      split at h
      case h_2 => cases h
      rename_i z size hz hn
      split at h
      · cases h
      rename_i hzl
      simp only [ne_eq, Decidable.not_not] at hzl
      obtain rfl := Option.some.inj h
      obtain ⟨zu, hzu, hzr⟩ := tzero_run hz
      intro H w v' H' hsim hr _ hwf
      simp only [Sm.run] at hr
      cases hw : writeCells H b o (zeros z.cells n) with
      | none => simp [hw] at hr
      | some H1 =>
        simp only [hw, Option.some.injEq, Prod.mk.injEq] at hr
        obtain ⟨rfl, rfl⟩ := hr
        obtain ⟨p, y, c', hp, rfl, g1, g2, g5, g6⟩ := hx
        have hy : y = ⟨p.blk, p.off + o, none⟩ := by
          rcases g5 with g5 | g5
          · omega
          · exact g5
        subst hy
        obtain ⟨w', hrun, hg⟩ := writeCells_run (P := P) hsim hp hw (zeroCells_ok hzl (hzr ρ) n)
        refine does_value (u := .tuple #[]) (run_v _ _ w' _ ?_) hg ⟨#[], rfl, rfl⟩
        obtain ⟨n', rfl⟩ := Nat.exists_eq_succ_of_ne_zero h0
        simp only [Builtin.clear_, ht, Sem.run_bind, Result.andThen_ok, und_run hd, List.getElem?_toArray, List.getElem?_cons_zero, hzu, hrun, Sem.run_pure]
  · cases h

theorem len_ok {ts : Array TypeId} {ty : TypeId} {x : AV} {sm : Sm} {ux : Value} (h : lenSem P ts x = some sm) (hx : VRel ρ x ux) :
    SemOk P a sm (do pure (Next.value (← Builtin.len_ ts ty #[ux]))) ρ := by
  unfold lenSem at h
  split at h
  · cases h
  rename_i t ht
  split at h
  · rename_i s hd
    obtain rfl := Option.some.inj h
    cases hx
    refine semOk_pure (u := .int .i64 s.length) (fun w => run_v _ _ _ _ ?_) rfl
    simp [Builtin.len_, ht, und_run hd, str_size, goInt]
  · rename_i e b n c sl hd
    obtain rfl := Option.some.inj h
    obtain ⟨b', c', rfl⟩ := slice_form hx
    refine semOk_pure (u := .int .i64 n) (fun w => run_v _ _ _ _ ?_) rfl
    simp [Builtin.len_, ht, und_run hd, goInt]
  · rename_i k e hd
    obtain rfl := Option.some.inj h
    cases hx
    refine semOk_pure (u := .int .i64 0) (fun w => run_v _ _ _ _ ?_) rfl
    simp [Builtin.len_, ht, und_run hd, goInt]
  · rename_i k e r hd
    obtain rfl := Option.some.inj h
    refine semOk_read fun H w os v' hsim hos hk => ?_
    obtain ⟨ob, hob, rfl⟩ := mapOpt_one hos
    obtain ⟨p, hp, h0, rfl⟩ := hx
    cases ob with
    | cells _ _ _ _ => simp at hk
    | dead => simp at hk
    | map es =>
      simp only [Option.some.injEq] at hk
      subst hk
      obtain ⟨p1, ms, clk, hp1, _, _, hh, hkr⟩ := hsim.obj _ _ hob
      rw [hp] at hp1; injection hp1 with hp1; subst hp1
      have hl := hkr.length
      simp at hl
      refine ⟨.int .i64 es.length, run_v _ _ _ _ ?_, rfl⟩
      simp [Builtin.len_, ht, und_run hd, getObj_map hh, goInt, hl]
  · rename_i n e hd
    obtain rfl := Option.some.inj h
    refine semOk_pure (u := .int .i64 n) (fun w => run_v _ _ _ _ ?_) rfl
    simp [Builtin.len_, ht, und_run hd, goInt]
  · rename_i arr hd
    split at h
    case h_2 => cases h
    rename_i n e hd2
    obtain rfl := Option.some.inj h
    refine semOk_pure (u := .int .i64 n) (fun w => run_v _ _ _ _ ?_) rfl
    simp [Builtin.len_, ht, und_run hd, und_run hd2, goInt]
  · cases h

theorem cap_ok {ts : Array TypeId} {ty : TypeId} {x : AV} {sm : Sm} {ux : Value} (h : capSem P ts x = some sm) (hx : VRel ρ x ux) :
    SemOk P a sm (do pure (Next.value (← Builtin.cap_ ts ty #[ux]))) ρ := by
  unfold capSem at h
  split at h
  · cases h
  rename_i t ht
  split at h
  · rename_i e n c sl hd
    obtain rfl := Option.some.inj h
    obtain ⟨_, _, rfl⟩ := hx
    refine semOk_pure (u := .int .i64 0) (fun w => run_v _ _ _ _ ?_) rfl
    simp [Builtin.cap_, ht, und_run hd, goInt]
  · rename_i e q n c hd
    obtain rfl := Option.some.inj h
    obtain ⟨p, y, c', hp, rfl, g1, g2, g5, g6⟩ := hx
    have : c' = c := by
      rcases g6 with g6 | ⟨s, hs, _⟩
      · exact g6
      · cases hs
    subst this
    refine semOk_pure (u := .int .i64 c') (fun w => run_v _ _ _ _ ?_) rfl
    simp [Builtin.cap_, ht, und_run hd, goInt]
  · rename_i n e hd
    obtain rfl := Option.some.inj h
    refine semOk_pure (u := .int .i64 n) (fun w => run_v _ _ _ _ ?_) rfl
    simp [Builtin.cap_, ht, und_run hd, goInt]
  · cases h

theorem maxs_ok : ∀ {l : List AV} {us : List Value} {x r : AV} {u : Value}, VRels ρ l us → VRel ρ x u → maxA x l = some r → ∃ z, (∀ w, (us.foldlM Builtin.max2 u).run P w = .ok z w) ∧ VRel ρ r z
  | [], us, x, r, u, hl, hx, h => by
    cases hl
    have : r = x := by cases x <;> (simp only [maxA, Option.some.injEq] at h; exact h.symm)
    subst this
    exact ⟨u, fun w => rfl, hx⟩
  | y :: ys, us, x, r, u, ⟨v, vs, e, hy, hys⟩, hx, h => by
    subst e
    unfold maxA at h
    split at h
    · rename_i heq; cases heq
    · rename_i k p k' q r' heq
      injection heq with e1 e2
      subst e1; subst e2
      split at h
      · rename_i e
        subst e
        cases hx; cases hy
        obtain ⟨z, hz, hr⟩ := maxs_ok (x := .int k (if q > p then q else p)) (u := .int k (if q > p then q else p)) hys rfl h
        exact ⟨z, fun w => by simp only [List.foldlM_cons, Sem.run_bind, Builtin.max2, Sem.run_pure, Result.andThen_ok]; exact hz w, hr⟩
      · cases h
    · cases h

theorem mins_ok : ∀ {l : List AV} {us : List Value} {x r : AV} {u : Value}, VRels ρ l us → VRel ρ x u → minA x l = some r → ∃ z, (∀ w, (us.foldlM Builtin.min2 u).run P w = .ok z w) ∧ VRel ρ r z
  | [], us, x, r, u, hl, hx, h => by
    cases hl
    have : r = x := by cases x <;> (simp only [minA, Option.some.injEq] at h; exact h.symm)
    subst this
    exact ⟨u, fun w => rfl, hx⟩
  | y :: ys, us, x, r, u, ⟨v, vs, e, hy, hys⟩, hx, h => by
    subst e
    unfold minA at h
    split at h
    · rename_i heq; cases heq
    · rename_i k p k' q r' heq
      injection heq with e1 e2
      subst e1; subst e2
      split at h
      · rename_i e
        subst e
        cases hx; cases hy
        obtain ⟨z, hz, hr⟩ := mins_ok (x := .int k (if q < p then q else p)) (u := .int k (if q < p then q else p)) hys rfl h
        exact ⟨z, fun w => by simp only [List.foldlM_cons, Sem.run_bind, Builtin.min2, Sem.run_pure, Result.andThen_ok]; exact hz w, hr⟩
      · cases h
    · cases h

theorem builtin_ok {b : Builtin} {ts : Array TypeId} {ty : TypeId} {consts : Array Bool} {args : List AV} {sm : Sm} {us : Array Value} (h : builtinSem P b ts args = some sm) (hx : VRels ρ args us.toList) :
    SemOk P a sm (builtin b ts ty consts us) ρ := by
  have one : ∀ {x : AV}, VRels ρ [x] us.toList → ∃ u, us = #[u] ∧ VRel ρ x u := by
    intro x ⟨y, ys, e, hy, hys⟩
    cases hys
    exact ⟨y, Array.ext' e, hy⟩
  have two : ∀ {x y : AV}, VRels ρ [x, y] us.toList → ∃ u v, us = #[u, v] ∧ VRel ρ x u ∧ VRel ρ y v := by
    intro x y ⟨u, l, e, hu, v, l2, e2, hv, hl⟩
    cases hl
    subst e2
    exact ⟨u, v, Array.ext' e, hu, hv⟩
  unfold builtinSem at h
  split at h
  · obtain ⟨u, v, rfl, hu, hv⟩ := two hx
    exact append_ok h hu hv
  · obtain ⟨u, v, rfl, hu, hv⟩ := two hx
    exact copy_ok h hu hv
  · obtain ⟨u, rfl, hu⟩ := one hx
    exact clear_ok h hu
  · obtain ⟨u, v, rfl, hu, hv⟩ := two hx
    exact delete_ok h hu hv
  · obtain ⟨u, rfl, hu⟩ := one hx
    exact len_ok h hu
  · obtain ⟨u, rfl, hu⟩ := one hx
    exact cap_ok h hu
  · rename_i x r
    cases hm : maxA x r with
    | none => simp [hm] at h
    | some v =>
      simp only [hm, Option.map_some, Option.some.injEq] at h
      subst h
      obtain ⟨u, l, e, hu, hl⟩ := hx
      obtain ⟨z, hz, hr⟩ := maxs_ok (P := P) hl hu hm
      refine semOk_pure (u := z) (fun w => run_v _ _ _ _ ?_) hr
      simp only [Builtin.max_, e]
      exact hz w
  · rename_i x r
    cases hm : minA x r with
    | none => simp [hm] at h
    | some v =>
      simp only [hm, Option.map_some, Option.some.injEq] at h
      subst h
      obtain ⟨u, l, e, hu, hl⟩ := hx
      obtain ⟨z, hz, hr⟩ := mins_ok (P := P) hl hu hm
      refine semOk_pure (u := z) (fun w => run_v _ _ _ _ ?_) hr
      simp only [Builtin.min_, e]
      exact hz w
  · cases h

end
end Go.Abs
