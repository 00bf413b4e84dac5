/- Each operation of the model comes to what the abstract machine says: maps, make. -/
import Derived.Test.YtpcchlcbmhmopaaAbOps6
namespace Go.Abs
set_option linter.unusedVariables false
set_option linter.unusedSimpArgs false

section
variable {P : Program} {a : Act} {ρ : Map}

/-! ## keys -/
theorem checkKey_ok {key : TypeId} {k : AV} {u : Value} {empty : Bool} (hf : keyFits P key k = true) (hk : VRel ρ k u) (w : World) : (Instr.checkKey empty 10000 key u).run P w = .ok () w := by
  show (Instr.checkKey empty (9999 + 1) key u).run P w = .ok () w
  generalize 9999 = n
  unfold keyFits at hf
  split at hf
  · split at hf
    · rename_i hd
      cases hk
      simp [Instr.checkKey, und_run hd]
    · cases hf
  · split at hf
    · rename_i hd
      cases hk
      simp [Instr.checkKey, und_run hd]
    · cases hf
  · split at hf
    · rename_i hd
      cases hk
      simp [Instr.checkKey, und_run hd]
    · cases hf
  · cases hf

theorem und_of_fits {key : TypeId} {k : AV} (hf : keyFits P key k = true) : ∃ d, P.underlying key = some d := by
  unfold keyFits at hf
  split at hf <;> first
    | (split at hf
       · rename_i h; exact ⟨_, h⟩
       · cases hf)
    | cases hf

theorem sameNow_ok {key : TypeId} {d : TypeDesc} {k x : AV} {u v : Value} {b : Bool} (hf : keyFits P key k = true) (hd : P.underlying key = some d) (hk : VRel ρ k u) (hx : VRel ρ x v) (h : keyEq k x = some b) :
    Instr.sameNow d u v = some b ∧ (b = true → Instr.sameBits 10000 v u = true) := by
  unfold keyEq at h
  unfold keyFits at hf
  split at h
  · rename_i k1 p k2 q
    split at h
    · rename_i e
      obtain rfl := Option.some.inj h
      subst e
      cases hk; cases hx
      simp only [hd] at hf
      cases d <;> simp at hf
      refine ⟨by simp [Instr.sameNow], fun hb => ?_⟩
      simp at hb
      subst hb
      show Instr.sameBits (9999 + 1) _ _ = true
      simp [Instr.sameBits]
    · cases h
  · rename_i p q
    obtain rfl := Option.some.inj h
    cases hk; cases hx
    simp only [hd] at hf
    cases d <;> simp at hf
    refine ⟨by simp [Instr.sameNow, bytes_beq], fun hb => ?_⟩
    simp at hb
    subst hb
    show Instr.sameBits (9999 + 1) _ _ = true
    simp [Instr.sameBits, bytes_beq]
  · rename_i p q
    obtain rfl := Option.some.inj h
    cases hk; cases hx
    simp only [hd] at hf
    cases d <;> simp at hf
    refine ⟨by simp [Instr.sameNow], fun hb => ?_⟩
    simp at hb
    subst hb
    show Instr.sameBits (9999 + 1) _ _ = true
    simp [Instr.sameBits]
  · cases h

/-- What a look-up finds. -/
def FRel (ρ : Map) (ms : List MapEntry) (i0 : Nat) (u : Value) : Option (Nat × AV) → Option (Nat × Value) → Prop
  | none, none => True
  | some (i, x), some (j, v) => i = j ∧ VRel ρ x v ∧ ∃ e, ms[i - i0]? = some e ∧ i0 ≤ i ∧ e.val = v ∧ Instr.sameBits 10000 e.key u = true
  | _, _ => False

theorem find_ok {key : TypeId} {d : TypeDesc} {k : AV} {u : Value} (hf : keyFits P key k = true) (hd : P.underlying key = some d) (hk : VRel ρ k u) : ∀ {es : List (AV × AV)} {ms : List MapEntry} {i : Nat} {r : Option (Nat × AV)}, KRels ρ es ms → findA k es i = some r →
    ∃ r', Instr.findNow d u ms i = some r' ∧ FRel ρ ms i u r r'
  | [], ms, i, r, h, hr => by
    cases h
    simp only [findA, Option.some.injEq] at hr
    subst hr
    exact ⟨none, rfl, trivial⟩
  | (x, v) :: es, ms, i, r, ⟨e, ms', hm, hx, hv, hs⟩, hr => by
    subst hm
    simp only [findA] at hr
    cases hq : keyEq k x with
    | none => simp [hq] at hr
    | some b =>
      obtain ⟨hs1, hs2⟩ := sameNow_ok hf hd hk hx hq
      cases b with
      | true =>
        simp only [hq, Option.some.injEq] at hr
        subst hr
        exact ⟨some (i, e.val), by simp [Instr.findNow, hs1], rfl, hv, e, by simp, Nat.le_refl _, rfl, hs2 rfl⟩
      | false =>
        simp only [hq] at hr
        obtain ⟨r', h1, h2⟩ := find_ok hf hd hk hs hr
        refine ⟨r', by simp [Instr.findNow, hs1, h1], ?_⟩
        cases r with
        | none => cases r' with
          | none => trivial
          | some _ => exact h2.elim
        | some p =>
          cases r' with
          | none => obtain ⟨_, _⟩ := p; exact h2.elim
          | some q =>
            obtain ⟨i1, x1⟩ := p
            obtain ⟨j1, v1⟩ := q
            obtain ⟨e1, e2, y, e3, e4, e5, e6⟩ := h2
            refine ⟨e1, e2, y, ?_, by omega, e5, e6⟩
            rw [show i1 - i = (i1 - (i + 1)) + 1 by omega]
            simpa using e3

theorem getObj_map {w : World} {B : Nat} {m : Array MapEntry} {k : Nat} (h : w.heap[B]? = some (.map m k)) : (getObj B).run P w = .ok (.map m k) w := by
  simp [getObj, Sem.run, h]

theorem setObj_map {w : World} {B : Nat} {m m' : Array MapEntry} {k k' : Nat} (h : w.heap[B]? = some (.map m k)) :
    (setObj B (.map m' k')).run P w = .ok () { w with heap := w.heap.setIfInBounds B (.map m' k') } := by
  simp [setObj, Sem.run, h]

theorem lookup_ok {t : TypeId} {x k : AV} {ok : Bool} {s : Sm} {ux uk : Value} (h : lookupSem P t x k ok = some s) (hx : VRel ρ x ux) (hk : VRel ρ k uk) :
    SemOk P a s (do pure (Next.value (← Instr.lookup t ux uk ok))) ρ := by
  unfold lookupSem at h
  split at h
  · rename_i key elem hd
    split at h
    · rename_i hf
      obtain ⟨dk, hdk⟩ := und_of_fits hf
      split at h
      · rename_i z hz
        obtain rfl := Option.some.inj h
        obtain ⟨zu, hzu, hzr⟩ := tzero_run hz
        cases hx
        have hrun : ∀ w, (Instr.lookup t (.map none) uk ok).run P w = .ok (if ok then .tuple #[zu, .bool false] else zu) w := by
          intro w
          simp only [Instr.lookup, Sem.run_bind, und_run hd, Result.andThen_ok, Sem.run_pure, checkKey_ok hf hk, Instr.findKey, und_run hdk]
          simp [Instr.findNow, hzu]
        refine semOk_pure (fun w => run_v _ _ _ _ (hrun w)) ?_
        cases ok
        · exact hzr ρ
        · exact ⟨_, rfl, _, _, rfl, hzr ρ, _, _, rfl, rfl, rfl⟩
      · rename_i z r hz
        obtain rfl := Option.some.inj h
        obtain ⟨zu, hzu, hzr⟩ := tzero_run hz
        refine semOk_read fun H w os v' hsim hos hkk => ?_
        obtain ⟨ob, hob, rfl⟩ := mapOpt_one hos
        obtain ⟨p, hp, h0, rfl⟩ := hx
        cases ob with
        | cells _ _ _ _ => simp at hkk
        | dead => simp at hkk
        | map es =>
          simp only [] at hkk
          obtain ⟨p1, m, clk, hp1, _, _, hh, hkr⟩ := hsim.obj _ _ hob
          rw [hp] at hp1; injection hp1 with hp1; subst hp1
          cases hfd : findA k es 0 with
          | none => simp [hfd] at hkk
          | some fr =>
            obtain ⟨r', hn, hfr⟩ := find_ok (i := 0) hf hdk hk hkr hfd
            cases fr with
            | none =>
              simp only [hfd, Option.some.injEq] at hkk
              subst hkk
              cases r' with
              | some _ => exact hfr.elim
              | none =>
                refine ⟨if ok then .tuple #[zu, .bool false] else zu, run_v _ _ _ _ ?_, ?_⟩
                · simp only [Instr.lookup, Sem.run_bind, und_run hd, Result.andThen_ok, getObj_map hh, Sem.run_pure, checkKey_ok hf hk, Instr.findKey, und_run hdk, hn]
                  simp [hzu]
                · cases ok
                  · exact hzr ρ
                  · exact ⟨_, rfl, _, _, rfl, hzr ρ, _, _, rfl, rfl, rfl⟩
            | some q =>
              obtain ⟨i1, x1⟩ := q
              simp only [hfd, Option.some.injEq] at hkk
              subst hkk
              cases r' with
              | none => exact hfr.elim
              | some q' =>
                obtain ⟨j1, v1⟩ := q'
                obtain ⟨_, hv1, _⟩ := hfr
                refine ⟨if ok then .tuple #[v1, .bool true] else v1, run_v _ _ _ _ ?_, ?_⟩
                · simp only [Instr.lookup, Sem.run_bind, und_run hd, Result.andThen_ok, getObj_map hh, Sem.run_pure, checkKey_ok hf hk, Instr.findKey, und_run hdk, hn]
                · cases ok
                  · exact hv1
                  · exact ⟨_, rfl, _, _, rfl, hv1, _, _, rfl, rfl, rfl⟩
      · cases h
    · cases h
  · cases h

/-! ## maps changed -/
theorem KRels.length {ρ : Map} : ∀ {es : List (AV × AV)} {ms : List MapEntry}, KRels ρ es ms → ms.length = es.length
  | [], _, h => by cases h; rfl
  | (_, _) :: _, _, ⟨_, _, h, _, _, r⟩ => by subst h; simp [KRels.length r]

theorem KRels.append {ρ : Map} : ∀ {es : List (AV × AV)} {ms : List MapEntry} {k v : AV} {e : MapEntry}, KRels ρ es ms → VRel ρ k e.key → VRel ρ v e.val → KRels ρ (es ++ [(k, v)]) (ms ++ [e])
  | [], _, _, _, e, h, hk, hv => by cases h; exact ⟨e, [], rfl, hk, hv, rfl⟩
  | (_, _) :: _, _, _, _, _, ⟨x, xs, h, a, b, r⟩, hk, hv => by subst h; exact ⟨x, _, rfl, a, b, KRels.append r hk hv⟩

theorem KRels.modify {ρ : Map} : ∀ {es : List (AV × AV)} {ms : List MapEntry} {i : Nat} {k v : AV} {f : MapEntry → MapEntry}, KRels ρ es ms → (∀ e, VRel ρ k (f e).key ∧ VRel ρ v (f e).val) → KRels ρ (es.set i (k, v)) (ms.modify i f)
  | [], _, i, _, _, _, h, _ => by cases h; simp [KRels]
  | (_, _) :: _, _, 0, _, _, f, ⟨x, xs, h, a, b, r⟩, g => by subst h; exact ⟨f x, xs, by simp, (g x).1, (g x).2, r⟩
  | (_, _) :: _, _, i + 1, _, _, f, ⟨x, xs, h, a, b, r⟩, g => by subst h; exact ⟨x, _, by simp, a, b, KRels.modify r g⟩

theorem KRels.erase {ρ : Map} : ∀ {es : List (AV × AV)} {ms : List MapEntry} {i : Nat}, KRels ρ es ms → KRels ρ (es.eraseIdx i) (ms.eraseIdx i)
  | [], _, i, h => by cases h; simp [KRels]
  | (_, _) :: _, _, 0, ⟨x, xs, h, a, b, r⟩ => by subst h; simpa using r
  | (_, _) :: _, _, i + 1, ⟨x, xs, h, a, b, r⟩ => by subst h; exact ⟨x, _, by simp, a, b, KRels.erase r⟩

theorem update_ok {t : TypeId} {m k v : AV} {s : Sm} {um uk uv : Value} (h : updateSem P t m k v = some s) (hm : VRel ρ m um) (hk : VRel ρ k uk) (hv : VRel ρ v uv) :
    SemOk P a s (do Instr.mapUpdate t um uk uv; pure Next.skip) ρ := by
  unfold updateSem at h
  split at h
  · rename_i key elem r hd
    split at h
    · rename_i hf
      obtain ⟨dk, hdk⟩ := und_of_fits hf
      obtain rfl := Option.some.inj h
      intro H w v' H' hsim hr _ hwf
      simp only [Sm.run] at hr
      obtain ⟨p, hp, h0, rfl⟩ := hm
      cases hob : H.get r with
      | none => simp [hob] at hr
      | some ob =>
        cases ob with
        | cells _ _ _ _ => simp [hob] at hr
        | dead => simp [hob] at hr
        | map es =>
          simp only [hob] at hr
          obtain ⟨p1, ms, clk, hp1, _, _, hh, hkr⟩ := hsim.obj _ _ hob
          rw [hp] at hp1; injection hp1 with hp1; subst hp1
          cases hfd : findA k es 0 with
          | none => simp [hfd] at hr
          | some fr =>
            obtain ⟨r', hn, hfr⟩ := find_ok (i := 0) hf hdk hk hkr hfd
            cases fr with
            | none =>
              simp only [hfd, Option.some.injEq, Prod.mk.injEq] at hr
              obtain ⟨rfl, rfl⟩ := hr
              cases r' with
              | some _ => exact hfr.elim
              | none =>
                refine does_skip (run_u _ _ _ ?_) (Good.mapped (ms' := ms.push { key := uk, val := uv, born := clk }) (k' := clk + 1) hsim hob hp hh ?_)
                · simp only [Instr.mapUpdate, Sem.run_bind, und_run hd, Result.andThen_ok, getObj_map hh, checkKey_ok hf hk, Instr.findKey, und_run hdk, hn, Sem.run_pure, setObj_map hh]
                · simp only [Array.toList_push]
                  exact hkr.append hk hv
            | some q =>
              obtain ⟨i1, x1⟩ := q
              simp only [hfd, Option.some.injEq, Prod.mk.injEq] at hr
              obtain ⟨rfl, rfl⟩ := hr
              cases r' with
              | none => exact hfr.elim
              | some q' =>
                obtain ⟨j1, v1⟩ := q'
                obtain ⟨rfl, hv1, e, he1, _, he3, he4⟩ := hfr
                have hei : ms[i1]? = some e := by simpa using he1
                refine does_skip (run_u _ _ _ ?_) (Good.mapped (ms' := ms.modify i1 fun e => { e with key := uk, val := uv }) (k' := clk) hsim hob hp hh ?_)
                · simp only [Instr.mapUpdate, Sem.run_bind, und_run hd, Result.andThen_ok, getObj_map hh, checkKey_ok hf hk, Instr.findKey, und_run hdk, hn, Sem.run_pure, hei, Option.map_some, Option.getD_some, Instr.keyThatStays, he4, if_true, setObj_map hh]
                · rw [Array.toList_modify]
                  exact hkr.modify (fun e => ⟨hk, hv⟩)
    · cases h
  · cases h

theorem delete_ok {ts : Array TypeId} {m k : AV} {s : Sm} {ty : TypeId} {um uk : Value} (h : deleteSem P ts m k = some s) (hm : VRel ρ m um) (hk : VRel ρ k uk) :
    SemOk P a s (do pure (Next.value (← Builtin.delete_ ts ty #[um, uk]))) ρ := by
  unfold deleteSem at h
  split at h
  · cases h
  · rename_i t ht
    split at h
    · rename_i key elem hd
      split at h
      · rename_i hf
        obtain rfl := Option.some.inj h
        cases hm
        refine semOk_pure (u := .tuple #[]) (fun w => run_v _ _ _ _ ?_) ⟨#[], rfl, rfl⟩
        simp [Builtin.delete_, ht, und_run hd, checkKey_ok hf hk]
      · cases h
    · rename_i key elem r hd
      split at h
      · rename_i hf
        obtain ⟨dk, hdk⟩ := und_of_fits hf
        obtain rfl := Option.some.inj h
        intro H w v' H' hsim hr _ hwf
        simp only [Sm.run] at hr
        obtain ⟨p, hp, h0, rfl⟩ := hm
        cases hob : H.get r with
        | none => simp [hob] at hr
        | some ob =>
          cases ob with
          | cells _ _ _ _ => simp [hob] at hr
          | dead => simp [hob] at hr
          | map es =>
            simp only [hob] at hr
            obtain ⟨p1, ms, clk, hp1, _, _, hh, hkr⟩ := hsim.obj _ _ hob
            rw [hp] at hp1; injection hp1 with hp1; subst hp1
            cases hfd : findA k es 0 with
            | none => simp [hfd] at hr
            | some fr =>
              obtain ⟨r', hn, hfr⟩ := find_ok (i := 0) hf hdk hk hkr hfd
              cases fr with
              | none =>
                simp only [hfd, Option.some.injEq, Prod.mk.injEq] at hr
                obtain ⟨rfl, rfl⟩ := hr
                cases r' with
                | some _ => exact hfr.elim
                | none =>
                  refine does_value (u := .tuple #[]) (run_v _ _ _ _ ?_) ((Good.mapped (ms' := ms) (k' := clk) hsim hob hp hh hkr).congr (fun x => (set_self_get hob x).symm) rfl) ⟨#[], rfl, rfl⟩
                  simp [Builtin.delete_, ht, und_run hd, getObj_map hh, checkKey_ok hf hk, Instr.findKey, und_run hdk, hn, setObj_map hh]
              | some q =>
                obtain ⟨i1, x1⟩ := q
                simp only [hfd, Option.some.injEq, Prod.mk.injEq] at hr
                obtain ⟨rfl, rfl⟩ := hr
                cases r' with
                | none => exact hfr.elim
                | some q' =>
                  obtain ⟨j1, v1⟩ := q'
                  obtain ⟨rfl, hv1, e, he1, _, he3, he4⟩ := hfr
                  refine does_value (u := .tuple #[]) (run_v _ _ _ _ ?_) (Good.mapped (ms' := ms.eraseIdxIfInBounds i1) (k' := clk) hsim hob hp hh ?_) ⟨#[], rfl, rfl⟩
                  · simp [Builtin.delete_, ht, und_run hd, getObj_map hh, checkKey_ok hf hk, Instr.findKey, und_run hdk, hn, setObj_map hh]
                  · rw [Array.toList_eraseIdxIfInBounds]
                    exact hkr.erase
      · cases h
    · cases h

theorem makeMap_ok {t : TypeId} {u : Option Value} (ht : ∃ k e, P.underlying t = some (.map k e)) (hu : ∀ x, u = some x → ∃ k n, x = .int k n) :
    SemOk P a (.alloc (.map []) fun n => .map (some n)) (do pure (Next.value (← Instr.makeMap t u))) ρ := by
  intro H w v' H' hs hr hfree hwf
  simp only [Sm.run, Option.some.injEq, Prod.mk.injEq] at hr
  obtain ⟨rfl, rfl⟩ := hr
  have hg : Good P.globals.size ρ H w (upd ρ H.next ⟨w.heap.size, 0, 1⟩) (H.push (.map [])) (w.alloc (.map #[] 0)) := by
    refine Good.push hs (hfree _ (Nat.le_refl _) (by simp)) ⟨_, #[], 0, upd_same _ _ _, rfl, rfl, push_at _, rfl⟩ rfl
  refine does_value (u := .map (some w.heap.size)) ?_ hg ⟨_, upd_same _ _ _, rfl, rfl⟩
  apply run_v
  obtain ⟨k, e, hd⟩ := ht
  cases u with
  | none => simp [Instr.makeMap]
  | some x =>
    obtain ⟨k, n, rfl⟩ := hu x rfl
    simp [Instr.makeMap, und_run hd, asInt, asIntOf]

/-! ## make -/
theorem wrap_same {x : Int} (h0 : 0 ≤ x) (h : x ≤ 2 ^ 62) : IntKind.i64.wrap x = x := by
  simp only [IntKind.wrap, IntKind.bits, IntKind.signed]
  have : x % 2 ^ 64 = x := Int.emod_eq_of_lt h0 (by omega)
  simp only [this]
  rw [if_neg (by simp; omega)]

theorem makeSlice_ok {t : TypeId} {l c : AV} {s : Sm} {ul uc : Value} (h : makeSliceSem P t l c = some s) (hl : VRel ρ l ul) (hc : VRel ρ c uc) :
    SemOk P a s (do pure (Next.value (← Instr.makeSlice t ul uc))) ρ := by
  unfold makeSliceSem at h
  split at h
  · rename_i elem k1 l k2 c hd
    split at h
    · rename_i bytes size z hb hn hz
      split at h
      · rename_i hc'
        obtain ⟨c1, c2, c3, c4, c5⟩ := hc'
        obtain rfl := Option.some.inj h
        obtain ⟨zu, hzu, hzr⟩ := tzero_run hz
        cases hl; cases hc
        cases hi : P.info? elem with
        | none => simp [tsz, hi] at hn
        | some i =>
          have hib : i.bytes = bytes := by simpa [tbytes, hi] using hb
          have hzc := (hzr ρ).cells
          have hzl := hzc.length
          simp at hzl
          let C : Array Value := (Array.range (c.toNat * size)).map (zu.cells[· % zu.cells.size]!)
          have hCs : C.size = c.toNat * size := by simp [C]
          refine semOk_newRow (C := C) (el := elem) (u := fun B => .slice (some ⟨B, 0, none⟩) l.toNat c.toNat) (fun w => run_v _ _ _ _ ?_) ?_ ?_
          · have hl2 : IntKind.i64.wrap l = l := wrap_same c1 (by omega)
            have hc2 : IntKind.i64.wrap c = c := wrap_same (by omega) (by omega)
            have t1 : (decide (c < 0) || decide ((bytes : Int) * c > 2 ^ 48) || decide (l < 0) || decide (l > c)) = false := by simp; omega
            simp only [Instr.makeSlice, Sem.run_bind, und_run hd, Result.andThen_ok, asInt, asIntOf, Sem.run_pure, tinfo_run hi, hl2, hc2, hib]
            rw [if_neg (by rw [t1]; simp)]
            by_cases h0 : c.toNat * size = 0
            · have e : C = #[] := by
                apply Array.eq_empty_of_size_eq_zero
                rw [hCs, h0]
              simp [run_askRoom, tsz_run hn, h0, newRow, e]
              congr 2
              exact Array.eq_empty_of_size_eq_zero (by simp)
            · simp [run_askRoom, tsz_run hn, h0, newRow, hzu, C]
          · have := zeros_rel hzc c.toNat (.inr trivial)
            rw [c5] at this
            exact this
          · intro ρ' b B hB
            exact ⟨_, _, _, hB, rfl, by omega, Nat.le_refl _, .inr (by simp), .inl rfl⟩
      · cases h
    · cases h
  · cases h

end
end Go.Abs
