/- Each operation of the model comes to what the abstract machine says: parts, places, slices, numbers, strings. -/
import Derived.Test.YtpcchlcbmhmopaaAbOps2
namespace Go.Abs
set_option linter.unusedVariables false
set_option linter.unusedSimpArgs false

section
variable {P : Program} {a : Act} {ρ : Map}

theorem und_run {t : TypeId} {d : TypeDesc} (h : P.underlying t = some d) (w : World) : (underlying t).run P w = .ok d w := by
  simp [underlying, h]

/-! ## parts -/
theorem part_run {t : TypeId} {cs : List AV} {ds : Array Value} {off : Nat} {v : AV} (h : partA P t cs off = some v) (hc : VRels ρ cs ds.toList) :
    ∃ u, (∀ w, (part t ds off).run P w = .ok u w) ∧ VRel ρ v u := by
  have hl := hc.length
  simp at hl
  unfold partA at h
  split at h
  · rename_i n hg hn
    split at h
    · rename_i hle
      injection h with h; subst h
      refine ⟨.agg (ds.extract off (off + n)), fun w => by simp [part, tagg_run hg, tsz_run hn], _, rfl, ?_⟩
      have := (hc.drop off).take n
      simpa [Array.toList_extract, List.extract_eq_take_drop] using this
    · exact absurd h (by simp)
  · rename_i hg
    obtain ⟨u, hu, r⟩ := hc.get off v h
    refine ⟨u, fun w => ?_, r⟩
    have : ds[off]? = some u := by simpa using hu
    simp [part, tagg_run hg, this]
  · exact absurd h (by simp)

theorem field_ok {t : TypeId} {fields : Array Field} {cs : List AV} {f : Nat} {fd : Field} {v : AV} {u : Value} (hd : P.underlying t = some (.struct fields)) (hf : fields[f]? = some fd)
    (h : partA P fd.type cs fd.offset = some v) (hv : VRel ρ (.agg cs) u) : ∃ r, (∀ w, (Instr.field t u f).run P w = .ok r w) ∧ VRel ρ v r := by
  obtain ⟨ds, rfl, hc⟩ := hv
  obtain ⟨r, hr, hrel⟩ := part_run h hc
  exact ⟨r, fun w => by simp [Instr.field, und_run hd, hf, asAgg, hr], hrel⟩

/-! ## places -/
theorem fieldAddr_ok {s : TypeId} {fields : Array Field} {f : Nat} {fd : Field} {b o : Nat} {u : Value} (hd : P.underlying s = some (.struct fields)) (hf : fields[f]? = some fd)
    (hz : ¬ (tsz P fd.type).getD 0 = 0) (hv : VRel ρ (.ptr (some (b, o))) u) : ∃ r, (∀ w, (Instr.fieldAt s u f).run P w = .ok r w) ∧ VRel ρ (.ptr (some (b, o + fd.offset))) r := by
  obtain ⟨p, hp, rfl⟩ := hv
  cases hn : tsz P fd.type with
  | none => rw [hn] at hz; exact absurd rfl hz
  | some n =>
    rw [hn] at hz
    refine ⟨.pointer (some ⟨p.blk, p.off + (o + fd.offset), none⟩), fun w => ?_, p, hp, rfl⟩
    have hz' : ¬ n = 0 := hz
    simp [Instr.fieldAt, und_run hd, hf, Instr.sureAddr, fieldPlace, tsz_run hn, hz', addr_add, Nat.add_assoc]

theorem indexAddr_ok {t : TypeId} {x ix v : AV} {ux ui : Value} (h : indexAddrSem P t x ix = some v) (hx : VRel ρ x ux) (hi : VRel ρ ix ui) :
    ∃ r, (∀ w, (Instr.indexAt t ux ui).run P w = .ok r w) ∧ VRel ρ v r := by
  unfold indexAddrSem at h
  split at h
  · rename_i len elem b o k i hd
    cases hn : tsz P elem with
    | none => simp [hn] at h
    | some size =>
      simp only [hn] at h
      split at h
      · rename_i hc
        injection h with h; subst h
        obtain ⟨p, hp, rfl⟩ := hx
        cases hi
        refine ⟨.pointer (some ⟨p.blk, p.off + (o + i.toNat * size), none⟩), fun w => ?_, p, hp, rfl⟩
        simp [Instr.indexAt, asIntOf, und_run hd, Instr.sureAddr, hc, tsz_run hn, addr_add, Nat.add_assoc]
      · exact absurd h (by simp)
  · rename_i elem b o len c sl k i hd
    cases hn : tsz P elem with
    | none => simp [hn] at h
    | some size =>
      simp only [hn] at h
      split at h
      · rename_i hc
        injection h with h; subst h
        obtain ⟨p, y, c', hp, rfl, h1, h2, h3, _⟩ := hx
        cases hi
        have hy : y = ⟨p.blk, p.off + o, none⟩ := by
          rcases h3 with h3 | h3
          · omega
          · exact h3
        subst hy
        refine ⟨.pointer (some ⟨p.blk, p.off + (o + i.toNat * size), none⟩), fun w => ?_, p, hp, rfl⟩
        simp [Instr.indexAt, asIntOf, und_run hd, hc, tsz_run hn, addr_add, Nat.add_assoc]
      · exact absurd h (by simp)
  · exact absurd h (by simp)

theorem index_ok {t : TypeId} {x ix v : AV} {ux ui : Value} (h : indexSem P t x ix = some v) (hx : VRel ρ x ux) (hi : VRel ρ ix ui) :
    ∃ r, (∀ w, (Instr.index t ux ui).run P w = .ok r w) ∧ VRel ρ v r := by
  unfold indexSem at h
  split at h
  · rename_i len elem cs k i hd
    cases hn : tsz P elem with
    | none => simp [hn] at h
    | some size =>
      simp only [hn] at h
      split at h
      · rename_i hc
        obtain ⟨ds, rfl, hcs⟩ := hx
        cases hi
        obtain ⟨r, hr, hrel⟩ := part_run h hcs
        exact ⟨r, fun w => by simp [Instr.index, asIntOf, und_run hd, hc, tsz_run hn, hr], hrel⟩
      · exact absurd h (by simp)
  · rename_i s k i hd
    split at h
    · rename_i h0
      cases hb : s[i.toNat]? with
      | none => simp [hb] at h
      | some c =>
        simp only [hb, Option.some.injEq] at h
        subst h
        cases hx; cases hi
        refine ⟨.int .u8 c.toNat, fun w => ?_, rfl⟩
        have : (⟨s.toArray⟩ : ByteArray)[i.toNat]? = some c := by
          obtain ⟨hlt, he⟩ := List.getElem?_eq_some_iff.1 hb
          rw [getElem?_pos (⟨s.toArray⟩ : ByteArray) i.toNat (by simpa [ByteArray.size] using hlt)]
          congr 1
        simp [Instr.index, asIntOf, und_run hd, h0, this]
    · exact absurd h (by simp)
  · exact absurd h (by simp)

/-! ## slices of what there is -/
theorem bound_ok {x : AV} {y n : Nat} {u : Value} {code : BoundsCode} (h : boundA x y = some n) (hx : VRel ρ x u) : n ≤ y ∧ ∀ z, y ≤ z → ∀ w, (Instr.sliceBound u z code).run P w = .ok n w := by
  unfold boundA at h
  split at h
  · rename_i k i
    split at h
    · rename_i hc
      injection h with h; subst h
      cases hx
      refine ⟨by omega, fun z hz w => ?_⟩
      have : 0 ≤ i ∧ i ≤ (z : Int) := by omega
      simp [Instr.sliceBound, asIntOf, this]
    · exact absurd h (by simp)
  · exact absurd h (by simp)

/-- An optional operand and its value. -/
def ORelV (ρ : Map) : Option AV → Option Value → Prop
  | none, none => True
  | some a, some v => VRel ρ a v
  | _, _ => False

theorem evOpt_rel {T : List AV} (hf : Frel ρ T a) (hg : Glob P ρ) {x : Option Operand} {v : Option AV} (h : evOpt P T x = some v) : ORelV ρ v (x.map a.eval) := by
  cases x with
  | none => simp only [evOpt, Option.some.injEq] at h; subst h; exact True.intro
  | some x =>
    simp only [evOpt] at h
    cases hx : ev P T x with
    | none => simp [hx] at h
    | some y => simp [hx] at h; subst h; exact ev_rel hf hg hx

/-- The bounds of a slice expression; the world's capacity may be greater, where none is named. -/
theorem bounds_ok {len cap cap' l h m : Nat} {lo hi mx : Option AV} {lo' hi' mx' : Option Value} {isSlice : Bool} (hb : boundsA len cap lo hi mx = some (l, h, m))
    (hl : ORelV ρ lo lo') (hh : ORelV ρ hi hi') (hm : ORelV ρ mx mx') (hc : cap ≤ cap') (hlen : len ≤ cap) :
    l ≤ h ∧ h ≤ m ∧ m ≤ cap ∧ ∀ w, (Instr.sliceBounds isSlice len cap' lo' hi' mx').run P w = .ok (l, h, if mx.isSome then m else cap') w := by
  unfold boundsA at hb
  cases mx with
  | none =>
    cases mx' with
    | some _ => exact hm.elim
    | none =>
      simp only [] at hb
      cases hi with
      | none =>
        cases hi' with
        | some _ => exact hh.elim
        | none =>
          simp only [] at hb
          cases lo with
          | none =>
            cases lo' with
            | some _ => exact hl.elim
            | none =>
              simp only [Option.some.injEq, Prod.mk.injEq] at hb
              obtain ⟨rfl, rfl, rfl⟩ := hb
              exact ⟨Nat.zero_le _, hlen, Nat.le_refl _, fun w => by simp [Instr.sliceBounds]⟩
          | some x =>
            cases lo' with
            | none => exact hl.elim
            | some u =>
              simp only [] at hb
              cases hx : boundA x len with
              | none => simp [hx] at hb
              | some n =>
                simp only [hx, Option.some.injEq, Prod.mk.injEq] at hb
                obtain ⟨rfl, rfl, rfl⟩ := hb
                have hr := bound_ok (P := P) (code := .sliceB) hx hl
                exact ⟨hr.1, hlen, Nat.le_refl _, fun w => by simp [Instr.sliceBounds, hr.2 len (Nat.le_refl _)]⟩
      | some y =>
        cases hi' with
        | none => exact hh.elim
        | some uy =>
          simp only [] at hb
          cases hy : boundA y cap with
          | none => simp [hy] at hb
          | some n =>
            simp only [hy] at hb
            have hr := fun code => bound_ok (P := P) (code := code) hy hh
            cases lo with
            | none =>
              cases lo' with
              | some _ => exact hl.elim
              | none =>
                simp only [Option.some.injEq, Prod.mk.injEq] at hb
                obtain ⟨rfl, rfl, rfl⟩ := hb
                exact ⟨Nat.zero_le _, (hr .sliceB).1, Nat.le_refl _, fun w => by simp [Instr.sliceBounds, (hr _).2 cap' hc]⟩
            | some x =>
              cases lo' with
              | none => exact hl.elim
              | some u =>
                simp only [] at hb
                cases hx : boundA x n with
                | none => simp [hx] at hb
                | some k =>
                  simp only [hx, Option.some.injEq, Prod.mk.injEq] at hb
                  obtain ⟨rfl, rfl, rfl⟩ := hb
                  have hr2 := bound_ok (P := P) (code := .sliceB) hx hl
                  exact ⟨hr2.1, (hr .sliceB).1, Nat.le_refl _, fun w => by simp [Instr.sliceBounds, (hr _).2 cap' hc, hr2.2 n (Nat.le_refl _)]⟩
  | some z =>
    cases mx' with
    | none => exact hm.elim
    | some uz =>
      simp only [] at hb
      cases hz : boundA z cap with
      | none => simp [hz] at hb
      | some mm =>
        simp only [hz] at hb
        have hr0 := fun code => bound_ok (P := P) (code := code) hz hm
        cases hi with
        | none => simp at hb
        | some y =>
          cases hi' with
          | none => exact hh.elim
          | some uy =>
            simp only [] at hb
            cases hy : boundA y mm with
            | none => simp [hy] at hb
            | some n =>
              simp only [hy] at hb
              have hr := fun code => bound_ok (P := P) (code := code) hy hh
              cases lo with
              | none =>
                cases lo' with
                | some _ => exact hl.elim
                | none =>
                  simp only [Option.some.injEq, Prod.mk.injEq] at hb
                  obtain ⟨rfl, rfl, rfl⟩ := hb
                  exact ⟨Nat.zero_le _, (hr .sliceB).1, (hr0 .sliceB).1, fun w => by simp [Instr.sliceBounds, (hr0 _).2 cap' hc, (hr _).2 mm (Nat.le_refl _)]⟩
              | some x =>
                cases lo' with
                | none => exact hl.elim
                | some u =>
                  simp only [] at hb
                  cases hx : boundA x n with
                  | none => simp [hx] at hb
                  | some k =>
                    simp only [hx, Option.some.injEq, Prod.mk.injEq] at hb
                    obtain ⟨rfl, rfl, rfl⟩ := hb
                    have hr2 := fun code => bound_ok (P := P) (code := code) hx hl
                    exact ⟨(hr2 .sliceB).1, (hr .sliceB).1, (hr0 .sliceB).1, fun w => by simp [Instr.sliceBounds, (hr0 _).2 cap' hc, (hr _).2 mm (Nat.le_refl _), (hr2 _).2 n (Nat.le_refl _)]⟩

theorem slice_ok {t : TypeId} {x v : AV} {lo hi mx : Option AV} {ux : Value} {lo' hi' mx' : Option Value} (h : sliceSem P t x lo hi mx = some v) (hx : VRel ρ x ux)
    (hl : ORelV ρ lo lo') (hh : ORelV ρ hi hi') (hm : ORelV ρ mx mx') : ∃ r, (∀ w, (Instr.sliceAt t ux lo' hi' mx').run P w = .ok r w) ∧ VRel ρ v r := by
  unfold sliceSem at h
  split at h
  · rename_i n elem b o hd
    split at h
    · rename_i l hh2 m size hb hn
      injection h with h; subst h
      obtain ⟨p, hp, rfl⟩ := hx
      obtain ⟨h1, h2, h3, hrun⟩ := bounds_ok (P := P) (cap' := n) (isSlice := false) hb hl hh hm (Nat.le_refl _) (Nat.le_refl _)
      have hmm : (if mx.isSome then m else n) = m ∨ (mx.isSome = false ∧ m = n) := by
        cases mx with
        | some _ => exact .inl rfl
        | none =>
          right
          refine ⟨rfl, ?_⟩
          unfold boundsA at hb
          simp only [] at hb
          (repeat' split at hb) <;> simp_all
      have hm2 : (if mx.isSome then m else n) = m := by
        rcases hmm with h | ⟨h, rfl⟩
        · exact h
        · simp [h]
      rw [hm2] at hrun
      refine ⟨.slice (some (if m = l then ⟨p.blk, p.off + o, none⟩ else ⟨p.blk, p.off + o + l * size, none⟩)) (hh2 - l) (m - l), fun w => ?_, p, _, m - l, hp, rfl, by omega, Nat.le_refl _, ?_, .inl rfl⟩
      · simp [Instr.sliceAt, und_run hd, Instr.sureAddr, hrun, tsz_run hn, addr_add]
      · by_cases e : m = l
        · left; omega
        · right; simp [e, Nat.add_assoc]
    · exact absurd h (by simp)
  · rename_i s hd
    cases mx with
    | some _ => simp at h
    | none =>
      cases mx' with
      | some _ => exact hm.elim
      | none =>
        cases hb : boundsA s.length s.length lo hi none with
        | none => simp [hb] at h
        | some q =>
          obtain ⟨l, hh2, m⟩ := q
          simp only [hb, Option.some.injEq] at h
          subst h
          cases hx
          obtain ⟨h1, h2, h3, hrun⟩ := bounds_ok (P := P) (cap' := s.length) (isSlice := false) hb hl hh hm (Nat.le_refl _) (Nat.le_refl _)
          refine ⟨.string ((⟨s.toArray⟩ : ByteArray).extract l hh2), fun w => ?_, ?_⟩
          · have hs : (⟨s.toArray⟩ : ByteArray).size = s.length := by simp [ByteArray.size]
            simp only [Instr.sliceAt, Sem.run_bind, und_run hd, Result.andThen_ok, Instr.slice, Option.isSome_none, Bool.false_eq_true, if_false, hs, hrun, Sem.run_pure]
          · show Value.string _ = Value.string _
            congr 1
            apply ByteArray.ext
            simp only [ByteArray.data_extract]
            apply Array.ext'
            simp [Array.toList_extract, List.extract_eq_take_drop, List.drop_take]
  · rename_i elem sa len cap sl hd
    split at h
    · rename_i l hh2 m size hb hn
      cases sa with
      | none =>
        simp only [Option.some.injEq] at h
        subst h
        obtain ⟨h1, h2, rfl⟩ := hx
        subst h1; subst h2
        obtain ⟨h1, h2, h3, hrun⟩ := bounds_ok (P := P) (cap' := 0) (isSlice := true) hb hl hh hm (Nat.le_refl _) (Nat.le_refl _)
        refine ⟨.slice none 0 0, fun w => ?_, rfl, rfl, rfl⟩
        have e1 : m = 0 := by omega
        have e2 : hh2 = 0 := by omega
        have e3 : l = 0 := by omega
        subst e1; subst e2; subst e3
        have hz : (if mx.isSome then 0 else 0) = 0 := by split <;> rfl
        rw [hz] at hrun
        simp [Instr.sliceAt, und_run hd, Instr.slice, hrun, tsz_run hn]
      | some q =>
        obtain ⟨b, o⟩ := q
        simp only [] at h
        split at h
        · rename_i hsl
          injection h with h; subst h
          obtain ⟨p, y, c', hp, rfl, g1, g2, g3, g4⟩ := hx
          obtain ⟨h1, h2, h3, hrun⟩ := bounds_ok (P := P) (cap' := c') (isSlice := true) hb hl hh hm g2 g1
          generalize hmm : (if mx.isSome then m else c') = m' at hrun
          refine ⟨.slice (some (if m' = l then y else y.add (l * size))) (hh2 - l) (m' - l), fun w => ?_, p, _, m' - l, hp, rfl, by omega, ?_, ?_, ?_⟩
          · simp [Instr.sliceAt, und_run hd, Instr.slice, hrun, tsz_run hn]
            split <;> rfl
          · cases mx with
            | some _ => simp at hmm; omega
            | none => simp at hmm; omega
          · by_cases e : m' = l
            · left; omega
            · right
              rw [if_neg e]
              have hy : y = ⟨p.blk, p.off + o, none⟩ := by
                rcases g3 with g3 | g3
                · exfalso; cases mx with
                  | some _ => simp at hmm; omega
                  | none => simp at hmm; omega
                · exact g3
              rw [hy, addr_add, Nat.add_assoc]
          · cases mx with
            | some _ => simp at hmm; left; omega
            | none =>
              simp at hmm
              subst hmm
              rcases g4 with g4 | ⟨s, hs, g4⟩
              · left
                have : m = cap := by
                  unfold boundsA at hb
                  simp only [] at hb
                  (repeat' split at hb) <;> simp_all
                omega
              · right
                refine ⟨s, by simpa using hs, ?_⟩
                rw [hs] at hsl
                simp at hsl
                subst hsl
                have hle : l ≤ c' := by omega
                have : l * s + (c' - l) * s = c' * s := by rw [← Nat.add_mul]; congr 1; omega
                simp only []
                omega
        · exact absurd h (by simp)
    · exact absurd h (by simp)
  · exact absurd h (by simp)

end
end Go.Abs
