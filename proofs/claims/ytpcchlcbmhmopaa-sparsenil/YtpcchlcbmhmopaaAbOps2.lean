/- Each operation of the model comes to what the abstract machine says: one lemma an operation. -/
import Derived.Test.YtpcchlcbmhmopaaAbOps1
namespace Go.Abs
set_option linter.unusedVariables false
set_option linter.unusedSimpArgs false

/-- No block beyond the next number. -/
def Wf (H : Heap) : Prop := ∀ b, H.next ≤ b → H.get b = none

/-- What a call is claimed to do. -/
def CallOk (P : Program) (call : CallFn) : Prop :=
  ∀ (f : FuncId) (args : List AV) (H : Heap) (v : AV) (H' : Heap), call f args H = some (v, H') → ∀ (ρ : Map) (w : World) (us : Array Value), Sim P.globals.size ρ H w →
    Wf H → (∀ b, H.next ≤ b → b < H'.next → ρ b = none) → VRels ρ args us.toList → Does P ρ H w v H' (callFunc f us)

theorem does_congr {P : Program} {ρ : Map} {H H' : Heap} {w : World} {v : AV} {s s' : Sem Next} (h : s.run P w = s'.run P w) (hd : Does P ρ H w v H' s') : Does P ρ H w v H' s := by
  unfold Does Delivers at *
  rw [h]
  exact hd

/-- What is claimed of an operation's meaning. -/
def SemOk (P : Program) (a : Act) (s : Sm) (n : Sem Next) (ρ : Map) : Prop :=
  ∀ (H : Heap) (w : World) (v : AV) (H' : Heap), Sim P.globals.size ρ H w → s.run H = some (v, H') → (∀ b, H.next ≤ b → b < H'.next → ρ b = none) →
    (∀ k, s = .heavy k → Wf H) → Does P ρ H w v H' n

section
variable {P : Program} {a : Act} {ρ : Map}

/-- A value whatever the memory. -/
theorem semOk_pure {v : AV} {u : Value} {n : Sem Next} (h : ∀ w, n.run P w = .ok (.value u) w) (hv : VRel ρ v u) : SemOk P a (.pure v) n ρ := by
  intro H w v' H' hs hr _ hwf
  simp only [Sm.run, Option.some.injEq, Prod.mk.injEq] at hr
  obtain ⟨rfl, rfl⟩ := hr
  exact does_pure hs (h w) hv

theorem semOk_pure_skip {n : Sem Next} (h : ∀ w, n.run P w = .ok .skip w) : SemOk P a (.pure .undef) n ρ := by
  intro H w v' H' hs hr _ hwf
  simp only [Sm.run, Option.some.injEq, Prod.mk.injEq] at hr
  obtain ⟨rfl, rfl⟩ := hr
  exact does_skip (h w) (Good.refl hs)

/-- A new block of cells. -/
theorem semOk_newRow {cs : List AV} {C : Array Value} {e el : TypeId} {m : Bool} {mk : Nat → AV} {n : Sem Next} {u : Nat → Value}
    (h : ∀ w, n.run P w = .ok (.value (u w.heap.size)) (w.alloc (.cells C el))) (hc : VRels ρ cs C.toList)
    (hv : ∀ ρ' b B, ρ' b = some ⟨B, 0, C.size⟩ → VRel ρ' (mk b) (u B)) : SemOk P a (.alloc (.cells cs e true m) mk) n ρ := by
  intro H w v' H' hs hr hfree hwf
  simp only [Sm.run, Option.some.injEq, Prod.mk.injEq] at hr
  obtain ⟨rfl, rfl⟩ := hr
  exact does_value (h w) (Good.newRow hs (hfree _ (Nat.le_refl _) (by simp)) hc m) (hv _ _ _ (upd_same _ _ _))

theorem run_v (s : Sem Value) (w w' : World) (u : Value) (h : s.run P w = .ok u w') : (do pure (Next.value (← s)) : Sem Next).run P w = .ok (.value u) w' := by
  simp [h]

theorem run_u (s : Sem Unit) (w w' : World) (h : s.run P w = .ok () w') : (do s; pure Next.skip : Sem Next).run P w = .ok .skip w' := by
  simp [h]

/-! ## lists of cells -/
theorem foldl_write {ρ : Map} : ∀ (vs : List AV) (us : List Value) (cs : List AV) (A : Array Value) (off k : Nat), VRels ρ vs us → VRels ρ cs A.toList →
    VRels ρ (writeAt cs (off + k) vs) ((us.zipIdx k).foldl (fun cs (x : Value × Nat) => cs.setIfInBounds (off + x.2) x.1) A).toList
  | [], us, cs, A, off, k, hv, hc => by cases hv; simpa [writeAt] using hc
  | v :: vs, us, cs, A, off, k, ⟨u, us', hu, hv, hvs⟩, hc => by
    subst hu
    simp only [List.zipIdx_cons, List.foldl_cons, writeAt]
    exact foldl_write vs us' (cs.set (off + k) v) (A.setIfInBounds (off + k) u) off (k + 1) hvs (by rw [Array.toList_setIfInBounds]; exact hc.set _ hv)

theorem size_cells {ρ : Map} {v : AV} {u : Value} (h : VRel ρ v u) : u.cells.size = v.cells.length := by
  have := h.cells.length
  simpa using this

inductive PRels (ρ : Map) : List (Nat × AV) → List (Nat × Value) → Prop where
  | nil : PRels ρ [] []
  | cons {i v u r r'} : VRel ρ v u → PRels ρ r r' → PRels ρ ((i, v) :: r) ((i, u) :: r')

theorem fill_rel {ρ : Map} {place : Nat → Option (Nat × Nat)} : ∀ {parts : List (Nat × AV)} {parts' : List (Nat × Value)} {cs cs' : List AV} {A : Array Value}, PRels ρ parts parts' → VRels ρ cs A.toList →
    fillA place cs parts = some cs' → ∃ A', Instr.fill place A parts' = some A' ∧ VRels ρ cs' A'.toList
  | _, _, cs, cs', A, .nil, hc, h => by
    simp only [fillA, Option.some.injEq] at h
    subst h
    exact ⟨A, rfl, hc⟩
  | _, _, cs, cs', A, .cons (i := i) (v := v) (u := u) hv hr, hc, h => by
    simp only [fillA] at h
    cases hp : place i with
    | none => simp [hp] at h
    | some q =>
      obtain ⟨off, size⟩ := q
      simp only [hp] at h
      split at h
      · exact absurd h (by simp)
      · rename_i hno
        have hsz := size_cells hv
        have hA := hc.length
        simp only [Bool.or_eq_true, decide_eq_true_eq, not_or, ne_eq, Decidable.not_not] at hno
        have hw := foldl_write v.cells u.cells.toList cs A off 0 hv.cells hc
        obtain ⟨A', hf, r⟩ := fill_rel hr (by simpa using hw) h
        refine ⟨A', ?_, r⟩
        simp only [Instr.fill, hp]
        rw [if_neg (by simp only [Bool.or_eq_true, decide_eq_true_eq, not_or, ne_eq, Decidable.not_not]; simp at hA; omega)]
        rw [← hf]
        congr 1
        rw [← Array.foldl_toList, Array.toList_zipIdx]

theorem evParts_rel {T : List AV} (hf : Frel ρ T a) (hg : Glob P ρ) : ∀ {parts : List (Nat × Operand)} {ps : List (Nat × AV)}, evParts P T parts = some ps → PRels ρ ps (parts.map fun (i, x) => (i, a.eval x))
  | [], ps, h => by simp only [evParts, Option.some.injEq] at h; subst h; exact .nil
  | (i, x) :: r, ps, h => by
    simp only [evParts] at h
    cases hx : ev P T x with
    | none => simp [hx] at h
    | some v =>
      cases hr : evParts P T r with
      | none => simp [hx, hr] at h
      | some vs =>
        simp [hx, hr] at h
        subst h
        exact .cons (ev_rel hf hg hx) (evParts_rel hf hg hr)

theorem length_zeros (zc : List AV) (n : Nat) : (zeros zc n).length = n * zc.length := by
  induction n with
  | zero => simp [zeros]
  | succ n ih => simp [zeros, ih, Nat.succ_mul]; omega

theorem get_zeros (zc : List AV) (n i : Nat) (h : i < n * zc.length) : (zeros zc n)[i]? = zc[i % zc.length]? := by
  induction n generalizing i with
  | zero => simp at h
  | succ n ih =>
    simp only [zeros]
    by_cases hi : i < zc.length
    · rw [List.getElem?_append_left hi, Nat.mod_eq_of_lt hi]
    · rw [List.getElem?_append_right (by omega), ih _ (by rw [Nat.succ_mul] at h; omega), Nat.mod_eq_sub_mod (show zc.length ≤ i by omega)]

theorem zeros_rel {zc : List AV} {zu : Array Value} (h : VRels ρ zc zu.toList) (n : Nat) (hn : n * zc.length ≠ 0 ∨ True) :
    VRels ρ (zeros zc n) ((Array.range (n * zc.length)).map (zu[· % zu.size]!)).toList := by
  have hl := h.length
  simp at hl
  refine VRels.mk (by simp [length_zeros]) ?_
  intro i x v hx hv
  have hi : i < n * zc.length := by
    rcases Nat.lt_or_ge i (n * zc.length) with h | h
    · exact h
    · rw [List.getElem?_eq_none (by rw [length_zeros]; exact h)] at hx; exact absurd hx (by simp)
  have hpos : 0 < zc.length := by
    rcases Nat.eq_zero_or_pos zc.length with e | e
    · rw [e] at hi; simp at hi
    · exact e
  rw [get_zeros _ _ _ hi] at hx
  obtain ⟨u, hu, r⟩ := h.get _ x hx
  simp [hi] at hv
  rw [← hv]
  have hlt : i % zu.size < zu.size := Nat.mod_lt _ (by omega)
  have : u = zu[i % zu.size]! := by
    rw [getElem!_pos zu _ hlt]
    rw [← hl] at hu
    simp [hlt] at hu
    exact hu.symm
  rw [← this]; exact r

/-! ## build -/
theorem fieldPlaces_run : ∀ {fs : List Field} {places : List (Nat × Nat)}, fieldPlaces P fs = some places → ∀ w,
    (fs.mapM (m := Sem) fun f => do pure (f.offset, ← sizeOf f.type)).run P w = .ok places w
  | [], places, h, w => by simp only [fieldPlaces, Option.some.injEq] at h; subst h; simp
  | f :: fs, places, h, w => by
    simp only [fieldPlaces] at h
    cases hn : tsz P f.type with
    | none => simp [hn] at h
    | some n =>
      cases hr : fieldPlaces P fs with
      | none => simp [hn, hr] at h
      | some r =>
        simp [hn, hr] at h
        subst h
        simp only [List.mapM_cons, Sem.run_bind, tsz_run hn, Result.andThen_ok, Sem.run_pure]
        have := fieldPlaces_run hr w
        rw [this]
        simp

theorem build_ok {t : TypeId} {ps : List (Nat × AV)} {parts : Array (Nat × Value)} {v : AV} (h : buildA P t ps = some v) (hp : PRels ρ ps parts.toList) :
    ∃ u, (∀ w, (Instr.build t parts).run P w = .ok u w) ∧ VRel ρ v u := by
  unfold buildA at h
  split at h
  · rename_i z fields hz hd
    cases hpl : fieldPlaces P fields.toList with
    | none => simp [hpl] at h
    | some places =>
      simp only [hpl] at h
      cases hfl : fillA (fun x => places[x]?) z.cells ps with
      | none => simp [hfl] at h
      | some cs' =>
        simp [hfl] at h
        subst h
        obtain ⟨zu, hzu, hzr⟩ := tzero_run hz
        obtain ⟨A', hA, r⟩ := fill_rel hp (hzr ρ).cells hfl
        refine ⟨.agg A', fun w => ?_, A', rfl, r⟩
        have hm : (fields.mapM (m := Sem) fun f => do pure (f.offset, ← sizeOf f.type)).run P w = .ok places.toArray w := by
          rw [Array.mapM_eq_mapM_toList]
          simp only [Sem.run_map, fieldPlaces_run hpl w, Result.andThen_ok]
        simp only [Instr.build, Sem.run_bind, hzu, Result.andThen_ok, underlying, run_program, hd, Sem.run_pure]
        rw [hm]
        simp only [Result.andThen_ok, List.getElem?_toArray, hA]
        rfl
  · rename_i z len elem hz hd
    cases hn : tsz P elem with
    | none => simp [hn] at h
    | some size =>
      simp only [hn] at h
      cases hfl : fillA (fun i => some (i * size, size)) z.cells ps with
      | none => simp [hfl] at h
      | some cs' =>
        simp [hfl] at h
        subst h
        obtain ⟨zu, hzu, hzr⟩ := tzero_run hz
        obtain ⟨A', hA, r⟩ := fill_rel hp (hzr ρ).cells hfl
        refine ⟨.agg A', fun w => ?_, A', rfl, r⟩
        simp only [Instr.build, Sem.run_bind, hzu, Result.andThen_ok, underlying, run_program, hd, Sem.run_pure, tsz_run hn, hA]
  · exact absurd h (by simp)

theorem buildSlice_ok {t : TypeId} {len : Nat} {ps : List (Nat × AV)} {parts : Array (Nat × Value)} {s : Sm} (h : buildSliceA P t len ps = some s) (hp : PRels ρ ps parts.toList) :
    SemOk P a s (do pure (.value (← Instr.buildSlice t len parts))) ρ := by
  unfold buildSliceA at h
  split at h
  · rename_i elem hd
    split at h
    · rename_i size z hn hz
      split at h
      · exact absurd h (by simp)
      · rename_i hno
        simp only [Bool.or_eq_true, decide_eq_true_eq, not_or, ne_eq, Decidable.not_not] at hno
        split at h
        · rename_i cells hfl
          injection h with h
          subst h
          obtain ⟨zu, hzu, hzr⟩ := tzero_run hz
          have hzc := (hzr ρ).cells
          have hzl := hzc.length
          simp at hzl
          by_cases h0 : len * size = 0
          · have hzz : zeros z.cells len = [] := by
              apply List.eq_nil_of_length_eq_zero
              rw [length_zeros, hno.2]; exact h0
            rw [hzz] at hfl
            obtain ⟨A', hA, r⟩ := fill_rel (A := #[]) hp (by rfl) hfl
            refine semOk_newRow (C := A') (el := elem) (u := fun B => .slice (some ⟨B, 0, none⟩) len len) (fun w => ?_) r ?_
            · apply run_v
              simp only [Instr.buildSlice, Sem.run_bind, underlying, run_program, Result.andThen_ok, hd, Sem.run_pure, tsz_run hn]
              rw [if_neg hno.1]
              simp only [Sem.run_bind, Sem.run_ite, Sem.run_pure, Result.andThen_ok, h0, if_true]
              have e : (Array.map (fun x => (#[] : Array Value)[x % (#[] : Array Value).size]!) (Array.range 0)) = #[] := by simp
              rw [e, hA]
              simp [newRow]
            · intro ρ' b B hB
              exact ⟨_, _, _, hB, rfl, Nat.le_refl _, Nat.le_refl _, .inr (by simp), .inl rfl⟩
          · obtain ⟨A', hA, r⟩ := fill_rel hp (zeros_rel hzc len (.inr trivial)) hfl
            refine semOk_newRow (C := A') (el := elem) (u := fun B => .slice (some ⟨B, 0, none⟩) len len) (fun w => ?_) r ?_
            · apply run_v
              simp only [Instr.buildSlice, Sem.run_bind, underlying, run_program, Result.andThen_ok, hd, Sem.run_pure, tsz_run hn]
              rw [if_neg hno.1]
              simp only [Sem.run_bind, Sem.run_ite, Sem.run_pure, Result.andThen_ok]
              rw [if_neg h0]
              simp only [Sem.run_bind, hzu, Result.andThen_ok, Sem.run_pure]
              rw [hno.2] at hA
              rw [hA]
              simp [newRow]
            · intro ρ' b B hB
              exact ⟨_, _, _, hB, rfl, Nat.le_refl _, Nat.le_refl _, .inr (by simp), .inl rfl⟩
        · exact absurd h (by simp)
    · exact absurd h (by simp)
  · exact absurd h (by simp)

end
end Go.Abs
