/- Each operation of the model comes to what the abstract machine says: the builtins, by the model's own text. -/
import Derived.Test.YtpcchlcbmhmopaaAbOps8
namespace Go.Abs
set_option linter.unusedVariables false
set_option linter.unusedSimpArgs false

section
variable {P : Program} {a : Act} {ρ : Map}

theorem lenOf_ok {x : AV} {n : Nat} {u : Value} (h : srcLen x = some n) (hx : VRel ρ x u) (w : World) : (Builtin.lenOf u).run P w = .ok n w := by
  unfold srcLen at h
  split at h
  · rename_i b n' c sl
    obtain rfl := Option.some.inj h
    cases b with
    | none => obtain ⟨e1, _, rfl⟩ := hx; subst e1; rfl
    | some q => obtain ⟨p, y, c', _, rfl, _⟩ := hx; rfl
  · rename_i s
    obtain rfl := Option.some.inj h
    cases hx
    simp [Builtin.lenOf, str_size]
  · cases h

theorem slice_form {base : Option (Nat × Nat)} {sLen sCap : Nat} {sl : Option Nat} {u : Value} (h : VRel ρ (.slice base sLen sCap sl) u) : ∃ b' c', u = .slice b' sLen c' := by
  cases base with
  | none => obtain ⟨e1, _, rfl⟩ := h; subst e1; exact ⟨none, 0, rfl⟩
  | some q => obtain ⟨p, y, c', _, rfl, _⟩ := h; exact ⟨some y, c', rfl⟩

theorem zeroCells_ok {z : AV} {zu : Value} {size : Nat} (hzl : z.cells.length = size) (hr : VRel ρ z zu) (n : Nat) : VRels ρ (zeros z.cells n) (Builtin.zeroCells zu.cells n).toList := by
  have h := hr.cells.length
  simp at h
  have := zeros_rel hr.cells n (.inr trivial)
  unfold Builtin.zeroCells
  rw [← h] at this
  exact this

theorem size_zeroCells (zc : Array Value) (n : Nat) : (Builtin.zeroCells zc n).size = n * zc.size := by simp [Builtin.zeroCells]

theorem append_ok {ts : Array TypeId} {ty : TypeId} {s x : AV} {sm : Sm} {us ux : Value} (h : appendSem P ts s x = some sm) (hs : VRel ρ s us) (hx : VRel ρ x ux) :
    SemOk P a sm (do pure (Next.value (← Builtin.append_ ts ty #[us, ux]))) ρ := by
  unfold appendSem at h
  split at h
  · cases h
  rename_i t ht
  split at h
  case h_2 => cases h
  rename_i elem hd
  split at h
  case h_2 => cases h
  rename_i size bytes z base sLen sCap sl hn hb hz
  split at h
  · cases h
  rename_i hzl
  simp only [ne_eq, Decidable.not_not] at hzl
  cases hi : P.info? elem with
  | none => simp [tsz, hi] at hn
  | some i =>
    have hib : i.bytes = bytes := by simpa [tbytes, hi] using hb
    obtain ⟨zu, hzu, hzr⟩ := tzero_run hz
    have hzul : zu.cells.size = size := by
      have := (hzr ρ).cells.length
      simp at this
      omega
    obtain ⟨b', c', rfl⟩ := slice_form hs
    have himax : IntKind.i64.max = 9223372036854775807 := by decide
    by_cases hN : isCount P ts[1]? = true
    · -- so many zeros
      rw [if_pos hN] at h
      split at h
      case h_2 => cases h
      rename_i k l
      split at h
      case isFalse => cases h
      rename_i hl
      obtain ⟨l0, l1, l2⟩ := hl
      obtain rfl := Option.some.inj h
      cases hx
      have hwl : IntKind.i64.wrap l = l := wrap_same l0 (by omega)
      intro H w v H' hsim hr hfree hwf
      simp only [Sm.run] at hr
      have hnew : (zeros z.cells l.toNat).length = l.toNat * size := by rw [length_zeros, hzl]
      have happ : ∀ w' : World, (if l.toNat * size = 0 then pure #[] else do pure (Builtin.zeroCells (← zeroValue elem).cells l.toNat) : Sem (Array Value)).run P w' = .ok (Builtin.zeroCells zu.cells l.toNat) w' := by
        intro w'
        by_cases h0 : l.toNat * size = 0
        · have : Builtin.zeroCells zu.cells l.toNat = #[] := Array.eq_empty_of_size_eq_zero (by rw [size_zeroCells, hzul, h0])
          simp [h0, this]
        · simp [h0, hzu]
      have hrel := zeroCells_ok (ρ := ρ) hzl (hzr ρ) l.toNat
      have hlb : ¬ (l * (bytes : Int) > 2 ^ 48) := by omega
      have hl0 : ¬ (l < 0) := by omega
      obtain ⟨u1, kk, hu1, hd1⟩ : ∃ u kk, ts[1]? = some u ∧ P.underlying u = some (.int kk) := by
        unfold isCount at hN
        split at hN
        · rename_i u hu
          split at hN
          · rename_i k' hd'
            exact ⟨u, _, hu, hd'⟩
          · cases hN
        · cases hN
      by_cases hroom : sLen + l.toNat ≤ c'
      · obtain ⟨w', ρ', hst, hg, hv⟩ := append_room (P := P) hsim hs hnew hfree hr hroom hrel
        refine does_value (u := .slice b' (sLen + l.toNat) c') (run_v _ _ w' _ ?_) hg hv
        simp only [Builtin.append_, ht, hu1, Sem.run_bind, Result.andThen_ok, und_run hd, und_run hd1, tsz_run hn, Sem.run_pure, List.getElem?_toArray, List.getElem?_cons_zero, List.getElem?_cons_succ, asInt, asIntOf, if_true, hwl]
        rw [if_neg hl0]
        simp only [Sem.run_bind, Sem.run_pure, Result.andThen_ok, tinfo_run hi, hib, hwl]
        rw [if_neg hlb]
        simp only [Sem.run_bind, Sem.run_pure, Result.andThen_ok]
        rw [if_pos hroom]
        simp only [Sem.run_bind, Bool.not_true, Bool.false_eq_true, if_false]
        rw [happ w]
        simp only [Result.andThen_ok]
        cases b' with
        | none =>
          simp only [Sem.run_pure] at hst ⊢
          injection hst with _ e
          rw [e]
        | some y =>
          simp only [Sem.run_bind] at hst ⊢
          rw [hst]
          rfl
      · obtain ⟨⟨g1, g2⟩, uold, hu, hall⟩ := append_new (P := P) hsim hs hnew hfree hr (by omega) hrel
        obtain ⟨nc, hnc, hask⟩ := run_capAsk (P := P) (sLen + l.toNat) c' elem w (by omega)
        obtain ⟨ρ', hg, hv⟩ := hall nc (Builtin.zeroCells zu.cells (nc - (sLen + l.toNat))) hnc (by rw [size_zeroCells, hzul])
        refine does_value (run_v _ _ _ _ ?_) hg hv
        have hbig : ¬ (((sLen + l.toNat : Nat) : Int) > IntKind.i64.max ∧ (True ∨ bytes = 0)) := by rw [himax]; omega
        simp only [Builtin.append_, ht, hu1, Sem.run_bind, Result.andThen_ok, und_run hd, und_run hd1, tsz_run hn, Sem.run_pure, List.getElem?_toArray, List.getElem?_cons_zero, List.getElem?_cons_succ, asInt, asIntOf, if_true, hwl]
        rw [if_neg hl0]
        simp only [Sem.run_bind, Sem.run_pure, Result.andThen_ok, tinfo_run hi, hib, hwl]
        rw [if_neg hlb]
        simp only [Sem.run_bind, Sem.run_pure, Result.andThen_ok]
        rw [if_neg hroom]
        simp only [Sem.run_bind, Sem.run_pure, Result.andThen_ok, tinfo_run hi, hib]
        rw [if_neg hbig]
        simp only [Sem.run_bind, Sem.run_pure, Result.andThen_ok, tinfo_run hi, hib]
        rw [if_neg (by omega)]
        simp only [Sem.run_bind, hask, Result.andThen_ok, tinfo_run hi, run_askRoom, Bool.not_true, Bool.false_eq_true, if_false]
        rw [hu _ (heap_drawn w)]
        simp only [Result.andThen_ok, happ, hzu, newRow, Sem.run_bind, run_newObj, Sem.run_pure]
        rfl
    · -- what a slice or a string holds
      rw [if_neg hN] at h
      split at h
      case h_2 => cases h
      rename_i u1 hu1
      split at h
      case h_2 => cases h
      rename_i d1 n hd1 hln
      obtain rfl := Option.some.inj h
      intro H w v H' hsim hr hfree hwf
      simp only [Sm.run] at hr
      cases hsrc : srcCells H size n x with
      | none => simp [hsrc] at hr
      | some new =>
        simp only [hsrc] at hr
        split at hr
        case isFalse => cases hr
        rename_i hnew
        obtain ⟨une, happ, hrel⟩ := src_ok (P := P) hsim hsrc hx
        have hlen := fun w => lenOf_ok (P := P) hln hx w
        have hni : ∀ kk, d1 ≠ .int kk := by
          rintro kk rfl
          apply hN
          rw [hu1]
          simp [isCount, hd1]
        have hz0 : ∀ (zf : Bool), zf = false → (zf = true) = False := by intro zf h; simp [h]
        by_cases hroom : sLen + n ≤ c'
        · obtain ⟨w', ρ', hst, hg, hv⟩ := append_room (P := P) hsim hs hnew hfree hr hroom hrel
          refine does_value (u := .slice b' (sLen + n) c') (run_v _ _ w' _ ?_) hg hv
          simp only [Builtin.append_, ht, hu1, Sem.run_bind, Result.andThen_ok, und_run hd, und_run hd1, tsz_run hn, Sem.run_pure, List.getElem?_toArray, List.getElem?_cons_zero, List.getElem?_cons_succ]
          cases d1 <;> first
            | exact absurd rfl (hni _)
            | (simp only [Bool.false_eq_true, if_false, Sem.run_bind, hlen, Result.andThen_ok]
               rw [if_pos hroom]
               simp only [Sem.run_bind, Bool.not_false, if_true]
               rw [happ w rfl]
               simp only [Result.andThen_ok]
               cases b' with
               | none =>
                 simp only [Sem.run_pure] at hst ⊢
                 injection hst with _ e
                 rw [e]
               | some y =>
                 simp only [Sem.run_bind] at hst ⊢
                 rw [hst]
                 rfl)
        · obtain ⟨⟨g1, g2⟩, uold, hu, hall⟩ := append_new (P := P) hsim hs hnew hfree hr (by omega) hrel
          obtain ⟨nc, hnc, hask⟩ := run_capAsk (P := P) (sLen + n) c' elem w (by omega)
          obtain ⟨ρ', hg, hv⟩ := hall nc (Builtin.zeroCells zu.cells (nc - (sLen + n))) hnc (by rw [size_zeroCells, hzul])
          refine does_value (run_v _ _ _ _ ?_) hg hv
          have hbig : ¬ (((sLen + n : Nat) : Int) > IntKind.i64.max) := by rw [himax]; omega
          simp only [Builtin.append_, ht, hu1, Sem.run_bind, Result.andThen_ok, und_run hd, und_run hd1, tsz_run hn, Sem.run_pure, List.getElem?_toArray, List.getElem?_cons_zero, List.getElem?_cons_succ]
          cases d1 <;> first
            | exact absurd rfl (hni _)
            | (simp only [Bool.false_eq_true, if_false, Sem.run_bind, hlen, Result.andThen_ok]
               rw [if_neg hroom]
               simp only [Sem.run_bind, Sem.run_pure, Result.andThen_ok, tinfo_run hi, hib]
               rw [if_neg (fun h => hbig h.1)]
               simp only [Sem.run_bind, Sem.run_pure, Result.andThen_ok, tinfo_run hi, hib]
               rw [if_neg (by omega)]
               simp only [Sem.run_bind, hask, Result.andThen_ok, tinfo_run hi, run_askRoom, Bool.not_false, if_true]
               rw [hu _ (heap_drawn w)]
               simp only [Result.andThen_ok]
               rw [happ _ (heap_drawn w)]
               simp only [Result.andThen_ok, hzu, newRow, Sem.run_bind, run_newObj, Sem.run_pure]
               rfl)

end
end Go.Abs
