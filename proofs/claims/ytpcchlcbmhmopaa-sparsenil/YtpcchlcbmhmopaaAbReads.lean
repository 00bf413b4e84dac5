/- Arguments read: the induction over the types. -/
import Derived.Test.YtpcchlcbmhmopaaAbRead
namespace Go.Abs
set_option linter.unusedVariables false

section
variable {D : Type} {enc : TypeId × Value → D} {P : Program} {w : World}

theorem trod_bool {fuel : Nat} {t : TypeId} {cs : List Value} {x : DataW D × List MemPlace} (hu : P.underlying t = some .bool)
    (h : DataW.trod enc P w 0 (fun _ => true) true (fuel + 1) t cs = some x) : ∃ b, cs = [.bool b] := by
  unfold DataW.trod at h
  rw [hu] at h
  split at h <;> simp_all

theorem trod_int {fuel : Nat} {t : TypeId} {k : IntKind} {cs : List Value} {x : DataW D × List MemPlace} (hu : P.underlying t = some (.int k))
    (h : DataW.trod enc P w 0 (fun _ => true) true (fuel + 1) t cs = some x) : ∃ z, cs = [.int k z] ∧ (Lit.int k z).wf = true := by
  unfold DataW.trod at h
  rw [hu] at h
  split at h <;> simp_all

theorem trod_string {fuel : Nat} {t : TypeId} {cs : List Value} {x : DataW D × List MemPlace} (hu : P.underlying t = some .string)
    (h : DataW.trod enc P w 0 (fun _ => true) true (fuel + 1) t cs = some x) : ∃ s, cs = [.string s] ∧ s.size ≤ maxLen := by
  unfold DataW.trod at h
  rw [hu] at h
  split at h <;> simp_all

theorem trod_struct {fuel : Nat} {t : TypeId} {fs : Array Field} {cs : List Value} {x : DataW D × List MemPlace} (hu : P.underlying t = some (.struct fs))
    (h : DataW.trod enc P w 0 (fun _ => true) true (fuel + 1) t cs = some x) :
    cs.length = P.cellsOf t ∧ ∀ f ∈ fs.toList, ∃ y, DataW.trod enc P w 0 (fun _ => true) true fuel f.type ((cs.drop f.offset).take (P.cellsOf f.type)) = some y := by
  unfold DataW.trod at h
  rw [hu] at h
  split at h <;> try (simp_all; done)
  rename_i fs' heq
  injection heq with heq
  injection heq with heq
  subst heq
  split at h
  · rename_i hl
    refine ⟨hl, fun f hf => ?_⟩
    rw [Option.map_eq_some_iff] at h
    obtain ⟨xs, hxs, _⟩ := h
    obtain ⟨i, hi⟩ := List.getElem?_of_mem hf
    have := mapM_some_get hxs i f hi
    have hlt : i < xs.length := by rw [mapM_some_length hxs]; exact (List.getElem?_eq_some_iff.1 hi).1
    exact ⟨xs[i], by rw [this]; simp [hlt]⟩
  · cases h

theorem trod_array {fuel : Nat} {t e : TypeId} {m : Nat} {cs : List Value} {x : DataW D × List MemPlace} (hu : P.underlying t = some (.array m e))
    (h : DataW.trod enc P w 0 (fun _ => true) true (fuel + 1) t cs = some x) :
    cs.length = P.cellsOf t ∧ ∀ i, i < m → ∃ y, DataW.trod enc P w 0 (fun _ => true) true fuel e ((cs.drop (i * P.cellsOf e)).take (P.cellsOf e)) = some y := by
  unfold DataW.trod at h
  rw [hu] at h
  split at h <;> try (simp_all; done)
  rename_i m' e' heq
  injection heq with heq
  injection heq with h1 h2
  subst h1; subst h2
  split at h
  · rename_i hl
    refine ⟨hl, fun i hi => ?_⟩
    rw [Option.map_eq_some_iff] at h
    obtain ⟨xs, hxs, _⟩ := h
    have := mapM_some_get hxs i i (by simp [hi])
    have hlt : i < xs.length := by rw [mapM_some_length hxs]; simpa using hi
    exact ⟨xs[i], by rw [this]; simp [hlt]⟩
  · cases h

theorem trod_slice {fuel : Nat} {t e : TypeId} {cs : List Value} {x : DataW D × List MemPlace} (hu : P.underlying t = some (.slice e))
    (h : DataW.trod enc P w 0 (fun _ => true) true (fuel + 1) t cs = some x) :
    cs = [.slice none 0 0] ∨ ∃ a len cap, cs = [.slice (some a) len cap] ∧ len ≤ cap ∧ cap ≤ maxLen ∧
      ∀ i, i < cap → ∃ ds y, w.cells? 0 (a.add (i * P.cellsOf e)) (P.cellsOf e) = some ds ∧ DataW.trod enc P w 0 (fun _ => true) true fuel e ds = some y := by
  unfold DataW.trod at h
  rw [hu] at h
  split at h <;> try (simp_all; done)
  rename_i e' a len cap heq
  injection heq with heq
  injection heq with h1
  subst h1
  right
  refine ⟨a, len, cap, rfl, ?_⟩
  simp only [if_true] at h
  split at h
  · rename_i hl
    obtain ⟨_, hlc, hcm⟩ := hl
    refine ⟨hlc, hcm, fun i hi => ?_⟩
    rw [Option.bind_eq_some_iff] at h
    obtain ⟨xs, hxs, h⟩ := h
    rw [Option.map_eq_some_iff] at h
    obtain ⟨ys, hys, _⟩ := h
    by_cases hil : i < len
    · have := mapM_some_get hxs i i (by simp [hil])
      have hlt : i < xs.length := by rw [mapM_some_length hxs]; simpa using hil
      rw [List.getElem?_eq_getElem hlt, Option.bind_eq_some_iff] at this
      obtain ⟨ds, h1, h2⟩ := this
      exact ⟨ds, _, h1, h2⟩
    · have := mapM_some_get hys (i - len) (i - len) (by rw [List.getElem?_range]; omega)
      have hlt : i - len < ys.length := by rw [mapM_some_length hys]; simp; omega
      rw [List.getElem?_eq_getElem hlt, Option.bind_eq_some_iff] at this
      obtain ⟨ds, h1, h2⟩ := this
      have e : len + (i - len) = i := by omega
      rw [e] at h1
      exact ⟨ds, _, h1, h2⟩
  · cases h

theorem reads_slice {n : Nat} {t e : TypeId} {a : Addr} {len cap : Nat} (hu : P.underlying t = some (.slice e)) (hs : 0 < P.cellsOf e) (hlc : len ≤ cap) (hcm : cap ≤ maxLen)
    (hel : ∀ i, i < cap → ∃ ds, w.cells? 0 (a.add (i * P.cellsOf e)) (P.cellsOf e) = some ds ∧ ∀ (ρ : Map) (H : Heap), Held P.globals.size ρ H w → P.globals.size ≤ H.next → Reads P w ρ H n e ds)
    (ρ : Map) (H : Heap) (hi : Held P.globals.size ρ H w) (hG : P.globals.size ≤ H.next) : Reads P w ρ H (n + 1) t [.slice (some a) len cap] := by
  by_cases hc0 : cap = 0
  · subst hc0
    have hl0 : len = 0 := by omega
    subst hl0
    have hnone : ρ H.next = none := hi.free _ (Nat.le_refl _)
    refine ⟨upd ρ H.next ⟨a.block, a.off, 0⟩, H.push .dead, [.slice (some (H.next, 0)) 0 0 (some (P.cellsOf e))], hi.add hG _ _ rfl trivial, Ext.upd _ hnone, HExt.push _, ?_, ?_⟩
    · exact ⟨_, [], rfl, ⟨_, a, 0, upd_same _ _ _, rfl, Nat.le_refl _, Nat.le_refl _, .inl rfl, .inl rfl⟩, rfl⟩
    · unfold Pic
      rw [hu]
      exact .inr ⟨H.next, 0, [], rfl, by simp, by simp [maxLen], by simp, fun h => by omega, fun i h => by omega⟩
  · generalize hsz : P.cellsOf e = s at *
    have hcell : ∀ i j, i < cap → j < s → ∃ ds, w.cells? 0 (a.add (i * s)) s = some ds ∧ w.cell? ((a.add (i * s)).add j) = ds[j]? ∧ ds.length = s := by
      intro i j hic hjs
      obtain ⟨ds, hd, _⟩ := hel i hic
      obtain ⟨h1, h2⟩ := cells?_facts hd
      exact ⟨ds, hd, h2 j hjs, h1⟩
    obtain ⟨ds0, _, h00, hl0⟩ := hcell 0 0 (by omega) hs
    rw [List.getElem?_eq_getElem (by omega)] at h00
    rw [Nat.zero_mul, show (a.add 0).add 0 = a from rfl] at h00
    obtain ⟨hspot, C, ct, fr, hC, _⟩ := cell?_block h00
    obtain ⟨b, o, sp⟩ := a
    simp only [] at hspot hC
    subst hspot
    have hval : ∀ i j, i < cap → j < s → ∃ ds, w.cells? 0 (Addr.add ⟨b, o, none⟩ (i * s)) s = some ds ∧ C[o + i * s + j]? = ds[j]? ∧ ds.length = s := by
      intro i j h1 h2
      obtain ⟨ds, hd, he, hl⟩ := hcell i j h1 h2
      refine ⟨ds, hd, ?_, hl⟩
      rw [← he]
      have e1 : (Addr.add ⟨b, o, none⟩ (i * s)).add j = ⟨b, o + i * s + j, none⟩ := by
        simp only [Addr.add]
        split <;> split <;> simp_all
      rw [e1]
      simp [World.cell?, hC]
    have hsize : o + cap * s ≤ C.size := by
      obtain ⟨ds, _, he, hl⟩ := hval (cap - 1) (s - 1) (by omega) (by omega)
      rw [List.getElem?_eq_getElem (by omega)] at he
      have h1 := (Array.getElem?_eq_some_iff.1 he).1
      have h2 : (cap - 1) * s + s = cap * s := by
        have : cap = (cap - 1) + 1 := by omega
        conv => rhs; rw [this, Nat.add_mul]
        omega
      omega
    have hls : len * s ≤ cap * s := Nat.mul_le_mul_right _ hlc
    have hcsl : ((C.toList.drop o).take (len * s)).length = len * s := by simp; omega
    have hpiece : ∀ i, (i + 1) * s ≤ len * s → ∃ ds, w.cells? 0 (Addr.add ⟨b, o, none⟩ (i * s)) s = some ds ∧ (((C.toList.drop o).take (len * s)).drop (i * s)).take s = ds := by
      intro i hil
      have hi' : i < len := by
        rcases Nat.lt_or_ge i len with h | h
        · exact h
        · have : (len + 1) * s ≤ (i + 1) * s := Nat.mul_le_mul_right _ (by omega)
          rw [Nat.add_mul] at this
          omega
      obtain ⟨ds, hd, _, hdl⟩ := hval i 0 (by omega) hs
      refine ⟨ds, hd, ?_⟩
      rw [Nat.add_mul] at hil
      apply List.ext_getElem?
      intro j
      by_cases hj : j < s
      · obtain ⟨ds', hd', he, _⟩ := hval i j (by omega) hj
        have : ds' = ds := Option.some.inj (hd'.symm.trans hd)
        subst this
        rw [List.getElem?_take, if_pos hj, List.getElem?_drop, List.getElem?_take, if_pos (by omega), List.getElem?_drop, Array.getElem?_toList, ← he]
        congr 1
        omega
      · rw [List.getElem?_eq_none (by simp; omega), List.getElem?_eq_none (by omega)]
    obtain ⟨ρ1, H1, c, i1, e1, x1, v1, p1⟩ := reads_pieces (P := P) (w := w) (n := n) (e := e) (s := s) (cs := (C.toList.drop o).take (len * s))
      (fun ρ H i hle h hg => by
        rw [hcsl] at hle
        obtain ⟨ds, hd, he⟩ := hpiece i hle
        rw [he]
        have hi' : i < cap := by
          rcases Nat.lt_or_ge i cap with h | h
          · exact h
          · have : (cap + 1) * s ≤ (i + 1) * s := Nat.mul_le_mul_right _ (by omega)
            rw [Nat.add_mul] at this
            omega
        obtain ⟨ds', hd', hr⟩ := hel i hi'
        have : ds' = ds := Option.some.inj (hd'.symm.trans hd)
        subst this
        exact hr ρ H h hg) len ρ H (by omega) hi hG
    rw [List.take_of_length_le (by omega)] at v1
    have hcl : c.length = len * s := by rw [v1.len, hcsl]
    have hnone : ρ1 H1.next = none := i1.free _ (Nat.le_refl _)
    refine ⟨upd ρ1 H1.next ⟨b, o, cap * s⟩, H1.push (.cells c e false false), [.slice (some (H1.next, 0)) len len (some s)], i1.add (Nat.le_trans hG x1.1) _ _ rfl ?_, e1.trans (Ext.upd _ hnone), x1.trans (HExt.push _), ?_, ?_⟩
    · refine ⟨_, C, ct, fr, upd_same _ _ _, hC, ?_, by simp only []; omega, by simp only []; omega, fun h => by cases h⟩
      intro i av hav
      obtain ⟨v, hv, hr⟩ := VRels.get i av v1 hav
      refine ⟨v, ?_, VRel.mono (Ext.upd _ hnone) _ _ hr⟩
      have hil : i < len * s := by rw [← hcl]; exact (List.getElem?_eq_some_iff.1 hav).1
      rw [List.getElem?_take, if_pos hil, List.getElem?_drop, Array.getElem?_toList] at hv
      exact hv
    · exact ⟨_, [], rfl, ⟨_, _, cap, upd_same _ _ _, rfl, Nat.le_refl _, hlc, .inr rfl, .inr ⟨s, rfl, by simp⟩⟩, rfl⟩
    · unfold Pic
      rw [hu]
      simp only [hsz]
      refine .inr ⟨H1.next, len, c, rfl, by simp, by omega, hcl, fun _ => by rw [Heap.get_push, if_pos rfl], fun i hil => ?_⟩
      exact Pic.mono (HExt.push _) _ _ _ (p1 i hil)

theorem reads_ok : ∀ (n : Nat) (t : TypeId) (cs : List Value) (fuel : Nat) (x : DataW D × List MemPlace), readable P n t = true → DataW.trod enc P w 0 (fun _ => true) true fuel t cs = some x →
    ∀ (ρ : Map) (H : Heap), Held P.globals.size ρ H w → P.globals.size ≤ H.next → Reads P w ρ H n t cs
  | 0, t, cs, fuel, x, hr, h, ρ, H, hi, hG => by cases hr
  | n + 1, t, cs, 0, x, hr, h, ρ, H, hi, hG => by cases h
  | n + 1, t, cs, fuel + 1, x, hr, h, ρ, H, hi, hG => by
    unfold readable at hr
    split at hr
    · rename_i hu
      obtain ⟨b, rfl⟩ := trod_bool hu h
      exact ⟨ρ, H, [.bool b], hi, Ext.refl ρ, HExt.refl H, ⟨_, [], rfl, rfl, rfl⟩, by unfold Pic; rw [hu]; exact ⟨b, rfl⟩⟩
    · rename_i k hu
      obtain ⟨z, rfl, hz⟩ := trod_int hu h
      exact ⟨ρ, H, [.int k z], hi, Ext.refl ρ, HExt.refl H, ⟨_, [], rfl, rfl, rfl⟩, by unfold Pic; rw [hu]; exact ⟨z, rfl, hz⟩⟩
    · rename_i hu
      obtain ⟨s, rfl, hs⟩ := trod_string hu h
      refine ⟨ρ, H, [.str s.data.toList], hi, Ext.refl ρ, HExt.refl H, ⟨_, [], rfl, ?_, rfl⟩, by unfold Pic; rw [hu]; exact ⟨_, rfl, by simpa using hs⟩⟩
      show Value.string s = _
      simp
    · rename_i e hu
      simp only [Bool.and_eq_true, decide_eq_true_eq] at hr
      rcases trod_slice hu h with rfl | ⟨a, len, cap, rfl, hlc, hcm, hel⟩
      · exact ⟨ρ, H, [.slice none 0 0 none], hi, Ext.refl ρ, HExt.refl H, ⟨_, [], rfl, ⟨rfl, rfl, rfl⟩, rfl⟩, by unfold Pic; rw [hu]; exact .inl rfl⟩
      · refine reads_slice hu hr.1 hlc hcm (fun i hi => ?_) ρ H hi hG
        obtain ⟨ds, y, hd, hy⟩ := hel i hi
        exact ⟨ds, hd, fun ρ H h g => reads_ok n e ds fuel y hr.2 hy ρ H h g⟩
    · rename_i fs hu
      simp only [Bool.and_eq_true, List.all_eq_true] at hr
      obtain ⟨hl, hf⟩ := trod_struct hu h
      obtain ⟨ρ', H', acs, i1, e1, x1, v1, _, p1⟩ := reads_fields (P := P) (w := w) (n := n) (cs := cs) fs.toList 0 ρ H [] (by rw [hl]; exact hr.1)
        (fun f hm ρ H h g => by
          obtain ⟨y, hy⟩ := hf f hm
          exact reads_ok n _ _ fuel y (hr.2 f hm) hy ρ H h g) hi hG (Nat.zero_le _) (by simp [VRels])
      exact ⟨ρ', H', acs, i1, e1, x1, v1, by unfold Pic; rw [hu]; exact ⟨by rw [v1.len, hl], p1⟩⟩
    · rename_i m e hu
      simp only [Bool.and_eq_true, decide_eq_true_eq, beq_iff_eq] at hr
      obtain ⟨⟨hs, hm⟩, hr⟩ := hr
      obtain ⟨hl, hf⟩ := trod_array hu h
      obtain ⟨ρ', H', acs, i1, e1, x1, v1, p1⟩ := reads_pieces (P := P) (w := w) (n := n) (e := e) (s := P.cellsOf e) (cs := cs)
        (fun ρ H i hle h g => by
          have hi' : i < m := by
            rcases Nat.lt_or_ge i m with h | h
            · exact h
            · have : (m + 1) * P.cellsOf e ≤ (i + 1) * P.cellsOf e := Nat.mul_le_mul_right _ (by omega)
              rw [Nat.add_mul] at this
              omega
          obtain ⟨y, hy⟩ := hf i hi'
          exact reads_ok n _ _ fuel y hr hy ρ H h g) m ρ H (by omega) hi hG
      rw [List.take_of_length_le (by omega)] at v1
      exact ⟨ρ', H', acs, i1, e1, x1, v1, by unfold Pic; rw [hu]; exact ⟨by rw [v1.len, hl], p1⟩⟩
    · cases hr

end
end Go.Abs
