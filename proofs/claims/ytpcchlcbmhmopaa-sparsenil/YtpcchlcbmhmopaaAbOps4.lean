/- Each operation of the model comes to what the abstract machine says: operators, equality, conversions. -/
import Derived.Test.YtpcchlcbmhmopaaAbOps3
import Derived.Laws.StructEq
import Derived.ChangeKeysEq
namespace Go.Abs
set_option linter.unusedVariables false
set_option linter.unusedSimpArgs false

section
variable {P : Program} {a : Act} {ρ : Map}

theorem str_toList (s : List UInt8) : (⟨s.toArray⟩ : ByteArray).toList = s := by simp [ByteArray.toList_eq]
theorem str_size (s : List UInt8) : (⟨s.toArray⟩ : ByteArray).size = s.length := by simp [ByteArray.size]
theorem str_append (s t : List UInt8) : (⟨s.toArray⟩ : ByteArray) ++ ⟨t.toArray⟩ = ⟨(s ++ t).toArray⟩ := by
  apply ByteArray.ext
  simp

/-! ## numbers, strings -/
theorem intOp_ok {op : BinOp} {t : TypeId} {k : IntKind} {x y : Int} {v : AV} (hop : op ≠ .shl ∧ op ≠ .shr) (h : intOp op k x y = some v) :
    ∃ u, (∀ w, (binOp op t (.int k x) (.int k y)).run P w = .ok u w) ∧ VRel ρ v u := by
  obtain ⟨h1, h2⟩ := hop
  cases op <;> simp only [intOp] at h <;> first
    | (obtain rfl := Option.some.inj h; exact ⟨_, fun w => by simp [binOp, Op.intArith, Op.intBits, Op.intCmp]; rfl, rfl⟩)
    | (obtain rfl := Option.some.inj h; exact ⟨_, fun w => by simp [binOp, Op.intArith, Op.intBits, Op.intCmp], rfl⟩)
    | (split at h
       · cases h
       · rename_i hy
         obtain rfl := Option.some.inj h
         exact ⟨_, fun w => (by simp [binOp, Op.intDiv, hy]; try rfl), rfl⟩)
    | exact absurd rfl h1
    | exact absurd rfl h2
    | cases h

theorem shiftOp_ok {op : BinOp} {t : TypeId} {k k' : IntKind} {x y : Int} {v : AV} (h : shiftOp op k x y = some v) (hop : op = .shl ∨ op = .shr) :
    ∃ u, (∀ w, (binOp op t (.int k x) (.int k' y)).run P w = .ok u w) ∧ VRel ρ v u := by
  unfold shiftOp at h
  split at h
  · exact absurd h (by simp)
  · rename_i hy
    rcases hop with rfl | rfl
    · simp only [Option.some.injEq] at h
      subst h
      exact ⟨_, fun w => by simp only [binOp, Op.shift, hy, if_false]; rfl, rfl⟩
    · simp only [Option.some.injEq] at h
      subst h
      exact ⟨_, fun w => by simp only [binOp, Op.shift, hy, if_false]; rfl, rfl⟩

theorem strOp_ok {op : BinOp} {t : TypeId} {x y : List UInt8} {v : AV} (h : strOp op x y = some v) :
    ∃ u, (∀ w, (binOp op t (.string ⟨x.toArray⟩) (.string ⟨y.toArray⟩)).run P w = .ok u w) ∧ VRel ρ v u := by
  cases op <;> simp only [strOp] at h <;> first
    | (obtain rfl := Option.some.inj h; exact ⟨_, fun w => by simp only [binOp, Op.stringOp, str_toList]; rfl, rfl⟩)
    | (split at h
       · rename_i hle
         obtain rfl := Option.some.inj h
         refine ⟨.string (⟨x.toArray⟩ ++ ⟨y.toArray⟩), fun w => ?_, by rw [str_append]; rfl⟩
         have hn : ¬ (((⟨x.toArray⟩ : ByteArray).size + (⟨y.toArray⟩ : ByteArray).size : Nat) : Int) > IntKind.i64.max := by
           rw [str_size, str_size]
           have : IntKind.i64.max = 9223372036854775807 := by decide
           omega
         simp only [binOp, Op.stringOp]
         rw [if_neg hn]
         rfl
       · cases h)
    | cases h

/-! ## equality -/
theorem eqFields_ok {d : Nat} {eq : TypeId → AV → AV → Option Bool} (ih : ∀ t x y r ux uy, eq t x y = some r → VRel ρ x ux → VRel ρ y uy → ∀ w, (Op.equalIn d t ux uy).run P w = .ok r w)
    {xs ys : List AV} {us vs : Array Value} (hx : VRels ρ xs us.toList) (hy : VRels ρ ys vs.toList) : ∀ {fs : List Field} {r : Bool}, eqFieldsA eq P xs ys fs = some r → ∀ w, (Op.eqFields d us vs fs).run P w = .ok r w
  | [], r, h, w => by simp only [eqFieldsA, Option.some.injEq] at h; subst h; simp [Op.eqFields]
  | f :: fs, r, h, w => by
    simp only [eqFieldsA] at h
    by_cases hn : f.name = "_"
    · simp only [hn, if_true] at h
      simp only [Op.eqFields, hn, ne_eq, not_true_eq_false, if_false]
      exact eqFields_ok ih hx hy h w
    · simp only [hn, if_false] at h
      cases h1 : partA P f.type xs f.offset with
      | none => simp [h1] at h
      | some x =>
        cases h2 : partA P f.type ys f.offset with
        | none => simp [h1, h2] at h
        | some y =>
          simp only [h1, h2] at h
          obtain ⟨ux, rx, hrx⟩ := part_run h1 hx
          obtain ⟨uy, ry, hry⟩ := part_run h2 hy
          cases h3 : eq f.type x y with
          | none => simp [h3] at h
          | some b =>
            simp only [h3] at h
            have h4 := ih _ _ _ _ _ _ h3 hrx hry
            simp only [Op.eqFields, hn, ne_eq, not_false_eq_true, if_true, Sem.run_bind, rx, ry, h4, Result.andThen_ok]
            cases b with
            | true =>
              simp only [Bool.not_true, Bool.false_eq_true, if_false]
              exact eqFields_ok ih hx hy (by simpa using h) w
            | false =>
              simp only [Option.some.injEq] at h
              subst h
              simp

theorem eqItems_ok {d : Nat} {elem : TypeId} {eq : AV → AV → Option Bool} (ih : ∀ x y r ux uy, eq x y = some r → VRel ρ x ux → VRel ρ y uy → ∀ w, (Op.equalIn d elem ux uy).run P w = .ok r w)
    {n : Nat} {xs ys : List AV} {us vs : Array Value} (hx : VRels ρ xs us.toList) (hy : VRels ρ ys vs.toList) : ∀ {is : List Nat} {r : Bool}, eqItemsA eq P elem n xs ys is = some r → ∀ w, (Op.eqItems d elem n us vs is).run P w = .ok r w
  | [], r, h, w => by simp only [eqItemsA, Option.some.injEq] at h; subst h; simp [Op.eqItems]
  | i :: is, r, h, w => by
    simp only [eqItemsA] at h
    cases h1 : partA P elem xs (i * n) with
    | none => simp [h1] at h
    | some x =>
      cases h2 : partA P elem ys (i * n) with
      | none => simp [h1, h2] at h
      | some y =>
        simp only [h1, h2] at h
        obtain ⟨ux, rx, hrx⟩ := part_run h1 hx
        obtain ⟨uy, ry, hry⟩ := part_run h2 hy
        cases h3 : eq x y with
        | none => simp [h3] at h
        | some b =>
          simp only [h3] at h
          have h4 := ih _ _ _ _ _ h3 hrx hry
          simp only [Op.eqItems, Sem.run_bind, rx, ry, h4, Result.andThen_ok]
          cases b with
          | true =>
            simp only [Bool.not_true, Bool.false_eq_true, if_false]
            exact eqItems_ok ih hx hy (by simpa using h) w
          | false =>
            simp only [Option.some.injEq] at h
            subst h
            simp

theorem bytes_beq (s t : List UInt8) : ((⟨s.toArray⟩ : ByteArray) == ⟨t.toArray⟩) = (s == t) := by
  rw [beq_toListBytes, str_toList, str_toList]

theorem eqA_ok : ∀ (d D : Nat) (t : TypeId) (x y : AV) (r : Bool) (ux uy : Value), d ≤ D → eqA P d t x y = some r → VRel ρ x ux → VRel ρ y uy → ∀ w, (Op.equalIn D t ux uy).run P w = .ok r w
  | 0, D, t, x, y, r, ux, uy, hD, h, hx, hy, w => by simp [eqA] at h
  | d + 1, 0, t, x, y, r, ux, uy, hD, h, hx, hy, w => by omega
  | d + 1, D + 1, t, x, y, r, ux, uy, hD, h, hx, hy, w => by
    simp only [eqA] at h
    split at h
    · rename_i p q hd
      injection h with h; subst h
      cases hx; cases hy
      exact run_equalIn_bool' w D t p q hd
    · rename_i k p k' q kk hd
      split at h
      · rename_i e
        injection h with h; subst h
        cases hx; cases hy; subst e
        exact run_equalIn_int w D t _ _ _ _ hd
      · exact absurd h (by simp)
    · rename_i p q hd
      injection h with h; subst h
      cases hx; cases hy
      rw [run_equalIn_string w D t _ _ hd, str_toList, str_toList]
    · rename_i fields xs ys hd
      split at h
      · exact absurd h (by simp)
      · rename_i hst
        obtain ⟨us, rfl, hu⟩ := hx
        obtain ⟨vs, rfl, hv⟩ := hy
        have hf : P.fieldsOf t = fields := by simp [Program.fieldsOf, hd]
        rw [run_equalIn_struct w D t us vs (by rw [hf]; exact hd) (by simpa using hst), hf]
        exact eqFields_ok (fun t x y r ux uy h hx hy w => eqA_ok d D t x y r ux uy (by omega) h hx hy w) hu hv h w
    · rename_i len elem xs ys hd
      cases hn : tsz P elem with
      | none => simp [hn] at h
      | some n =>
        simp only [hn] at h
        obtain ⟨us, rfl, hu⟩ := hx
        obtain ⟨vs, rfl, hv⟩ := hy
        cases hi : P.info? elem with
        | none => simp [tsz, hi] at hn
        | some i =>
          have hc : P.cellsOf elem = n := by simp [tsz, hi] at hn; simp [Program.cellsOf, hi, hn]
          rw [run_equalIn_array w D us vs hd hi, hc]
          exact eqItems_ok (fun x y r ux uy h hx hy w => eqA_ok d D elem x y r ux uy (by omega) h hx hy w) hu hv h w
    · exact absurd h (by simp)

/-- The guard of '==' lets by what the abstract machine compares. -/
theorem eqGuard_ok {op : BinOp} {t : TypeId} {x y : Operand} {u v : Value} (h2 : (∃ us vs, u = .agg us ∧ v = .agg vs) → P.eqGuardType P.depth t = false)
    (h3 : ¬ (u = .nilIface ∧ v = .nilIface)) (w : World) : (eqGuard op t x y u v).run P w = .ok () w := by
  by_cases ha : ∃ us vs, u = .agg us ∧ v = .agg vs
  · obtain ⟨us, vs, rfl, rfl⟩ := ha
    exact run_eqGuard_agg w op t x y us vs (h2 ⟨us, vs, rfl, rfl⟩)
  · by_cases hop : op = .eql ∨ op = .neq
    · rcases hop with rfl | rfl
      · cases u <;> cases v <;> first
          | rfl
          | exact absurd ⟨rfl, rfl⟩ h3
          | exact absurd ⟨_, _, rfl, rfl⟩ ha
      · cases u <;> cases v <;> first
          | rfl
          | exact absurd ⟨rfl, rfl⟩ h3
          | exact absurd ⟨_, _, rfl, rfl⟩ ha
    · cases op <;> first
        | rfl
        | exact absurd (.inl rfl) hop
        | exact absurd (.inr rfl) hop

theorem equal_succ (t : TypeId) (x y : Value) : Op.equal t x y = Op.equalIn (9999 + 1) t x y := rfl

/-- Two pointers into blocks apart. -/
theorem sameAddr_apart {G : Nat} {H : Heap} {w : World} (hs : Sim G ρ H w) {x y : Nat × Nat} {p q : Place} (hp : ρ x.1 = some p) (hq : ρ y.1 = some q) (hne : x.1 ≠ y.1) {o1 o2 : AObj}
    (h1 : H.get x.1 = some o1) (h2 : H.get y.1 = some o2) {r : AV} (hr : eqRead x y [o1, o2] = some r) :
    (sameAddr ⟨p.blk, p.off + x.2, none⟩ ⟨q.blk, q.off + y.2, none⟩).run P w = .ok false w := by
  unfold eqRead at hr
  split at hr
  · rename_i c e d f heq
    simp only [List.cons.injEq, and_true] at heq
    obtain ⟨rfl, rfl⟩ := heq
    split at hr
    · rename_i hb
      simp only [Bool.and_eq_true, decide_eq_true_eq] at hb
      have hap := hs.apart x.1 y.1 _ _ p q h1 h2 hne rfl rfl hp hq
      obtain ⟨p1, C, e1, fr, hp1, hh, hc, hl, ht, hown⟩ := hs.obj _ _ h1
      rw [hp] at hp1; injection hp1 with hp1; subst hp1
      obtain ⟨_, hfr⟩ := hown rfl
      have hfr : fr = (0, 0) := by rcases hfr with h | ⟨h, _⟩; exact h; exact absurd h (by simp)
      subst hfr
      obtain ⟨q1, D, e2, fr2, hq1, hh2, hc2, hl2, ht2, hown2⟩ := hs.obj _ _ h2
      rw [hq] at hq1; injection hq1 with hq1; subst hq1
      obtain ⟨_, hfr2⟩ := hown2 rfl
      have hfr2 : fr2 = (0, 0) := by rcases hfr2 with h | ⟨h, _⟩; exact h; exact absurd h (by simp)
      subst hfr2
      have hbn : (p.blk == q.blk) = false := by simpa using hap
      simp only [sameAddr]
      rw [if_neg (by simp [hbn])]
      simp [noView, viewAt, mayBeOne, stringish, World.frozen?, World.shape?, hh, hh2]
    · exact absurd hr (by simp)
  · exact absurd hr (by simp)

theorem run_equal_pointer {t e : TypeId} {x y : Addr} (hd : P.underlying t = some (.pointer e)) (hz : ¬ (tsz P e).getD 0 = 0) (w : World) :
    (Op.equal t (.pointer (some x)) (.pointer (some y))).run P w = (sameAddr x y).run P w := by
  cases hn : tsz P e with
  | none => rw [hn] at hz; exact absurd rfl hz
  | some n =>
    rw [hn] at hz
    have hz' : ¬ n = 0 := hz
    rw [equal_succ]
    generalize 9999 = d
    simp only [Op.equalIn, Sem.run_bind, und_run hd, Result.andThen_ok, tsz_run hn]
    rw [if_pos hz']

theorem bool_neg (r neg : Bool) : (if neg then !r else r) = (r != neg) := by cases r <;> cases neg <;> rfl

/-- '==' or '!=': the operator, by what 'equal' says. -/
theorem run_binOp_eq {neg : Bool} {t : TypeId} {u v : Value} (hcase : (∀ k m k' n, ¬ (u = .int k m ∧ v = .int k' n)) ∧ (∀ s s', ¬ (u = .string s ∧ v = .string s')) ∧
      (∀ k m k' n, ¬ (u = .float k m ∧ v = .float k' n)) ∧ (∀ k m k' n i j, ¬ (u = .complex k m i ∧ v = .complex k' n j))) (w : World) :
    (binOp (if neg then .neq else .eql) t u v).run P w = ((Op.equal t u v).run P w).andThen fun r w' => .ok (.bool (r != neg)) w' := by
  obtain ⟨h1, h2, h3, h4⟩ := hcase
  cases neg
  · simp only [Bool.false_eq_true, if_false]
    cases u <;> cases v <;> first
      | exact absurd ⟨rfl, rfl⟩ (h1 _ _ _ _)
      | exact absurd ⟨rfl, rfl⟩ (h2 _ _)
      | exact absurd ⟨rfl, rfl⟩ (h3 _ _ _ _)
      | exact absurd ⟨rfl, rfl⟩ (h4 _ _ _ _ _ _)
      | (simp only [binOp, Sem.run_bind]; congr 1; funext r w'; cases r <;> rfl)
  · simp only [if_true]
    cases u <;> cases v <;> first
      | exact absurd ⟨rfl, rfl⟩ (h1 _ _ _ _)
      | exact absurd ⟨rfl, rfl⟩ (h2 _ _)
      | exact absurd ⟨rfl, rfl⟩ (h3 _ _ _ _)
      | exact absurd ⟨rfl, rfl⟩ (h4 _ _ _ _ _ _)
      | (simp only [binOp, Sem.run_bind]; congr 1; funext r w'; cases r <;> rfl)

end
end Go.Abs
