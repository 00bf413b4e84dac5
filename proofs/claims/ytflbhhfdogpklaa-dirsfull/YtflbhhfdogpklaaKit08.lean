/- Texts on the abstract machine, joined. -/
import Derived.Test.YtflbhhfdogpklaaKit03

/- Copies that run out into the slack behind a block. -/
namespace Go.Abs
set_option linter.unusedVariables false
set_option linter.unusedSimpArgs false

/-- Cells written from within a block on, and on behind its last one, out of the slack. -/
theorem cells_writtenX {P : Program} {ρ : Map} {b : Nat} {p : Place} {e : TypeId} {m : Bool} (hp : ρ b = some p) : ∀ (vs : List AV) (us : List Value) {G : Nat} {H : Heap} {w : World} {c : List AV} (o0 i : Nat),
    Sim G ρ H w → H.get b = some (.cells c e true m) → o0 + i ≤ c.length → c.length ≤ o0 + i + vs.length → o0 + i + vs.length ≤ p.tot → VRels ρ vs us → vs.all AV.one = true →
    ∃ w', (storeCells ⟨p.blk, p.off + o0, none⟩ us i).run P w = .ok () w' ∧ Good G ρ H w ρ (H.set b (.cells (c.take (o0 + i) ++ vs) e true m)) w'
  | [], us, G, H, w, c, o0, i, hs, hg, hl, hl2, ht, hv, h1 => by
    cases hv
    refine ⟨w, rfl, (Good.refl hs).congr ?_ rfl⟩
    rw [List.append_nil, List.take_of_length_le (by simpa using hl2)]
    exact set_self_get hg
  | v :: vs, us, G, H, w, c, o0, i, hs, hg, hl, hl2, ht, ⟨u, us', hu, hv, hvs⟩, h1 => by
    subst hu
    have h1' := h1
    simp only [List.all_cons, Bool.and_eq_true] at h1
    simp only [List.length_cons] at hl2 ht
    by_cases hlt : o0 + i < c.length
    · obtain ⟨hg1, hcell, hfr⟩ := Good.write1 hs hg (o := o0 + i) hlt hp hv
      have hst := run_store_one (P := P) (hv.one h1.1) hcell hfr
      obtain ⟨w', hrun, hg2⟩ := cells_writtenX hp vs us' o0 (i + 1) hg1.sim (Heap.get_set_same _ _ _) (by simp; omega) (by simp; omega) (by omega) hvs h1.2
      refine ⟨w', ?_, ?_⟩
      · simp only [storeCells, Sem.run_bind, addr_add]
        rw [show p.off + o0 + i = p.off + (o0 + i) by omega, hst]
        simp only [Result.andThen_ok]
        exact hrun
      · refine (hg1.trans hg2).congr ?_ rfl
        intro x
        have e1 : (c.set (o0 + i) v).take (o0 + (i + 1)) ++ vs = c.take (o0 + i) ++ (v :: vs) := by
          rw [← Nat.add_assoc, List.take_add_one, List.take_set_of_le (Nat.le_refl _)]
          simp [List.getElem?_set_self hlt]
        simp only [Heap.get_set, e1]
        split <;> rfl
    · have e : o0 + i = c.length := by omega
      obtain ⟨w', hrun, hg2⟩ := cells_extended (P := P) hp (v :: vs) (u :: us') o0 i hs hg e (by simp; omega) ⟨u, us', rfl, hv, hvs⟩ h1'
      refine ⟨w', hrun, ?_⟩
      rw [e, List.take_length]
      exact hg2
/-- A copy whose target runs out into the slack. -/
theorem copy_runX {P : Program} {ρ : Map} {G : Nat} {H : Heap} {w : World} {b o n k dLen : Nat} {p : Place} {c : List AV} {e : TypeId} {m : Bool} {cells : List AV} {x : AV} {ux : Value} {t1 t2 elem : TypeId} {size : Nat}
    (hs : Sim G ρ H w) (hg : H.get b = some (.cells c e true m)) (hp : ρ b = some p) (hu : P.underlying t1 = some (.slice elem)) (hz : tsz P elem = some size)
    (hx : VRel ρ x ux) (hsl : srcLen x = some n) (hk : Nat.min n dLen = k) (hsrc : srcCells H size k x = some cells) (hlen : cells.length = k * size) (hl1 : o ≤ c.length) (hl2 : c.length ≤ o + cells.length) (ht : o + cells.length ≤ p.tot) (hone : cells.all AV.one = true) :
    ∃ w', (∀ ty dCap, (Builtin.copy_ #[t1, t2] ty #[.slice (some ⟨p.blk, p.off + o, none⟩) dLen dCap, ux]).run P w = .ok (.int .i64 (k : Nat)) w') ∧ Good G ρ H w ρ (H.set b (.cells (c.take o ++ cells) e true m)) w' := by
  obtain ⟨une, happ, hrel⟩ := src_ok (P := P) hs hsrc hx
  have hl := lenOf_ok (P := P) hsl hx w
  obtain ⟨w', hrun, hgood⟩ := cells_writtenX (P := P) hp cells une.toList o 0 hs hg (by omega) (by omega) (by omega) hrel hone
  rw [Nat.add_zero] at hgood
  refine ⟨w', fun ty dCap => ?_, hgood⟩
  subst hk
  simp only [Builtin.copy_, Sem.run_bind, Result.andThen_ok, und_run hu, hl, tsz_run hz, List.getElem?_toArray, List.getElem?_cons_zero, List.getElem?_cons_succ, happ w rfl, Sem.run_pure, goInt, hrun]
/-- A copy within a block. -/
theorem copy_runW {P : Program} {ρ : Map} {G : Nat} {H : Heap} {w : World} {b o n k dLen : Nat} {p : Place} {c : List AV} {e : TypeId} {m : Bool} {cells : List AV} {x : AV} {ux : Value} {t1 t2 elem : TypeId} {size : Nat}
    (hs : Sim G ρ H w) (hg : H.get b = some (.cells c e true m)) (hp : ρ b = some p) (hu : P.underlying t1 = some (.slice elem)) (hz : tsz P elem = some size)
    (hx : VRel ρ x ux) (hsl : srcLen x = some n) (hk : Nat.min n dLen = k) (hsrc : srcCells H size k x = some cells) (hl : o + cells.length ≤ c.length) (hone : cells.all AV.one = true) :
    ∃ w', (∀ ty dCap, (Builtin.copy_ #[t1, t2] ty #[.slice (some ⟨p.blk, p.off + o, none⟩) dLen dCap, ux]).run P w = .ok (.int .i64 (k : Nat)) w') ∧ Good G ρ H w ρ (H.set b (.cells (writeAt c o cells) e true m)) w' := by
  obtain ⟨une, happ, hrel⟩ := src_ok (P := P) hs hsrc hx
  have hlen := lenOf_ok (P := P) hsl hx w
  obtain ⟨w', hrun, hgood⟩ := cells_written (P := P) hp cells une.toList o 0 hs hg (by omega) hrel hone
  rw [Nat.add_zero] at hgood
  refine ⟨w', fun ty dCap => ?_, hgood⟩
  subst hk
  simp only [Builtin.copy_, Sem.run_bind, Result.andThen_ok, und_run hu, hlen, tsz_run hz, List.getElem?_toArray, List.getElem?_cons_zero, List.getElem?_cons_succ, happ w rfl, Sem.run_pure, goInt, hrun]
end Go.Abs
