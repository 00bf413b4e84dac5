/- Each operation of the model comes to what the abstract machine says: append, copy, clear, len, cap, max, min. -/
import Derived.Test.YtpcchlcbmhmopaaAbOps7
namespace Go.Abs
set_option linter.unusedVariables false
set_option linter.unusedSimpArgs false

section
variable {P : Program} {a : Act} {ρ : Map}

theorem Sim.heap_eq {G : Nat} {ρ : Map} {H : Heap} {w w' : World} (hs : Sim G ρ H w) (h : w'.heap = w.heap) : Sim G ρ H w' := hs.congr (fun _ => rfl) h

/-- What is appended or copied, read. -/
theorem src_ok {G : Nat} {H : Heap} {w : World} (hs : Sim G ρ H w) {size n : Nat} {x : AV} {cs : List AV} {u : Value} (h : srcCells H size n x = some cs) (hx : VRel ρ x u) :
    ∃ us : Array Value, (∀ w', w'.heap = w.heap → (Builtin.firstCells size n u).run P w' = .ok us w') ∧ VRels ρ cs us.toList := by
  unfold srcCells at h
  split at h
  · obtain rfl := Option.some.inj h
    obtain ⟨_, _, rfl⟩ := hx
    exact ⟨#[], fun w' _ => rfl, rfl⟩
  · rename_i b o len c sl
    obtain ⟨p, y, c', hp, rfl, g1, g2, g5, _⟩ := hx
    split at h
    · rename_i h0
      obtain rfl := Option.some.inj h
      exact ⟨#[], fun w' _ => by simp [Builtin.firstCells, h0, loadCells, loadCellsFrom], rfl⟩
    · rename_i h0
      split at h
      · rename_i hle
        unfold cellsAt at h
        split at h
        · rename_i c1 e1 o1 m1 hg
          split at h
          · rename_i hfit
            obtain rfl := Option.some.inj h
            obtain ⟨p1, C, el, fr, hp1, hh, hcr, _⟩ := hs.obj _ _ hg
            rw [hp] at hp1; injection hp1 with hp1; subst hp1
            have hn : n ≠ 0 := by rintro rfl; simp at h0
            have hy : y = ⟨p.blk, p.off + o, none⟩ := by
              rcases g5 with g5 | g5
              · omega
              · exact g5
            subst hy
            obtain ⟨us, hu, hrel⟩ := cells_reads (P := P) (B := p.blk) (e := el) (fr := fr) hcr o (n * size) hfit
            exact ⟨us, fun w' hw => hu w' (by rw [hw]; exact hh), hrel⟩
          · cases h
        · cases h
      · cases h
  · rename_i s
    obtain rfl := Option.some.inj h
    cases hx
    refine ⟨(((⟨s.toArray⟩ : ByteArray).extract 0 n).data.map fun b => Value.int .u8 b.toNat), fun w' _ => rfl, ?_⟩
    have := cellsOfBytes_rel ρ (s.take n)
    have e : ((⟨s.toArray⟩ : ByteArray).extract 0 n) = ⟨(s.take n).toArray⟩ := by
      apply ByteArray.ext
      simp only [ByteArray.data_extract]
      apply Array.ext'
      simp [Array.toList_extract, List.extract_eq_take_drop]
    rw [e]
    exact this
  · cases h


/-! ## append -/
theorem growBy_le : ∀ (r n c : Nat), c < n + (n + 768) / 4 + 1 → Builtin.growBy n r c ≤ n + (n + 768) / 4
  | 0, n, c, h => by simp only [Builtin.growBy]; omega
  | r + 1, n, c, h => by
    simp only [Builtin.growBy]
    split
    · omega
    · exact growBy_le r n _ (by omega)

theorem nextslicecap_le (need cap : Nat) (h : cap < need) : Builtin.nextslicecap need cap ≤ 3 * need := by
  unfold Builtin.nextslicecap
  split
  · omega
  · split
    · omega
    · have := growBy_le 4 need cap (by omega)
      omega

theorem nextslicecap_zero (need : Nat) (h : 0 < need) : Builtin.nextslicecap need 0 = need := by
  unfold Builtin.nextslicecap
  rw [if_pos (by omega)]

theorem growFits_ok {need c c' bytes : Nat} {known : Bool} (h : growFits need c bytes known = true) (hk : known = true → c' = c) (hlt : c' < need) :
    need ≤ 2 ^ 62 ∧ Builtin.nextslicecap need c' * bytes ≤ 2 ^ 48 := by
  unfold growFits at h
  simp only [Bool.and_eq_true, Bool.or_eq_true, decide_eq_true_eq, beq_iff_eq] at h
  obtain ⟨h1, h2⟩ := h
  refine ⟨h1, ?_⟩
  rcases h2 with ⟨h2, h3⟩ | ⟨⟨h2, h3⟩, h4⟩
  · have := nextslicecap_le need c' hlt
    calc Builtin.nextslicecap need c' * bytes ≤ 3 * need * bytes := Nat.mul_le_mul_right _ this
      _ = 3 * (need * bytes) := by rw [Nat.mul_assoc]
      _ ≤ 2 ^ 48 := by omega
  · rw [hk h2, h3, nextslicecap_zero need (by omega)]
    exact h4

/-- The abstract machine drops a block. -/
theorem Good.kill {G : Nat} {ρ : Map} {H : Heap} {w : World} (hs : Sim G ρ H w) {b : Nat} {o : AObj} (hg : H.get b = some o) : Good G ρ H w ρ (H.set b .dead) w := by
  have hget : ∀ x y, (H.set b .dead).get x = some y → y = .dead ∨ H.get x = some y := by
    intro x y h
    rw [Heap.get_set] at h
    split at h
    · injection h with h; exact .inl h.symm
    · exact .inr h
  refine ⟨⟨?_, ?_, hs.glob⟩, Ext.refl ρ, fun _ _ => rfl, Nat.le_refl _, ?_, ?_, ?_⟩
  · intro x y h
    rcases hget x y h with rfl | h
    · trivial
    · exact hs.obj x y h
  · intro x x' y y' p p' h h' hne hl hw hp hp'
    rcases hget x y h with rfl | h
    · simp [AObj.live] at hl
    · rcases hget x' y' h' with rfl | h'
      · simp [AObj.own] at hw
      · exact hs.apart x x' y y' p p' h h' hne hl hw hp hp'
  · intro x hx _
    rw [Heap.get_set]
    split
    · rename_i e; subst e; rw [hg] at hx; exact absurd hx (by simp)
    · exact hx
  · intro x y h hl hw
    rcases hget x y h with rfl | h
    · cases hl
    · exact h
  · refine ⟨Nat.le_refl _, fun B o h _ => h, ?_, rfl, rfl, rfl⟩
    rintro B ⟨x, y, p, hx, hy, hp, rfl⟩
    rcases hget x y hx with rfl | hx
    · simp [AObj.own] at hy
    · exact .inr ⟨x, y, p, hx, hy, hp, rfl⟩

/-- What appendA says, way by way. -/
theorem appendA_cases {elem : TypeId} {size bytes : Nat} {base : Option (Nat × Nat)} {sLen sCap : Nat} {sl : Option Nat} {n : Nat} {new : List AV} {H H' : Heap} {v : AV}
    (h : appendA elem size bytes base sLen sCap sl n new H = some (v, H')) :
    (sLen + n ≤ sCap ∧ ((base = none ∧ v = .slice none 0 0 none ∧ H' = H) ∨ ∃ b o, base = some (b, o) ∧ writeCells H b (o + sLen * size) new = some H' ∧ v = .slice (some (b, o)) (sLen + n) sCap sl)) ∨
    (sCap < sLen + n ∧ growFits (sLen + n) sCap bytes (base.isNone || sl.isNone) = true ∧ ∃ old, srcCells H size sLen (.slice base sLen sCap sl) = some old ∧
      v = .slice (some (H.next, 0)) (sLen + n) (sLen + n) (some size) ∧
      (((base = none ∨ sl = none) ∧ H' = H.push (.cells (old ++ new) elem true false)) ∨
       ∃ b o c e, base = some (b, o) ∧ sl = some size ∧ H.get b = some (.cells c e true false) ∧ o + sLen * size ≤ c.length ∧ new.all AV.one = true ∧ H' = (H.set b .dead).push (.cells (old ++ new) elem true false))) := by
  unfold appendA at h
  split at h
  · rename_i hle
    refine .inl ⟨hle, ?_⟩
    split at h
    · simp only [Option.some.injEq, Prod.mk.injEq] at h
      exact .inl ⟨rfl, h.1.symm, h.2.symm⟩
    · rename_i b o
      split at h
      · rename_i H1 hw
        simp only [Option.some.injEq, Prod.mk.injEq] at h
        obtain ⟨rfl, rfl⟩ := h
        exact .inr ⟨b, o, rfl, hw, rfl⟩
      · cases h
  · rename_i hgt
    split at h
    · rename_i hg
      refine .inr ⟨by omega, hg, ?_⟩
      split at h
      · cases h
      · rename_i old ho
        refine ⟨old, ho, ?_⟩
        split at h
        · rename_i b o s
          split at h
          · rename_i c e hc
            split at h
            · rename_i hcond
              simp only [Option.some.injEq, Prod.mk.injEq] at h
              obtain ⟨rfl, rfl⟩ := h
              obtain ⟨rfl, h2, h3⟩ := hcond
              exact ⟨rfl, .inr ⟨b, o, c, e, rfl, rfl, hc, h2, h3, rfl⟩⟩
            · cases h
          · cases h
        · rename_i hne
          simp only [Option.some.injEq, Prod.mk.injEq] at h
          obtain ⟨rfl, rfl⟩ := h
          refine ⟨rfl, .inl ⟨?_, rfl⟩⟩
          cases base with
          | none => exact .inl rfl
          | some b => cases sl with
            | none => exact .inr rfl
            | some s => exact (hne _ _ _ rfl rfl).elim
    · cases h

/-- The world's append where there is room. -/
theorem append_room {elem : TypeId} {size bytes : Nat} {base : Option (Nat × Nat)} {sLen sCap : Nat} {sl : Option Nat} {n : Nat} {new : List AV} {H H' : Heap} {v : AV} {w : World}
    (hsim : Sim P.globals.size ρ H w) {b' : Option Addr} {c' : Nat} (hs : VRel ρ (.slice base sLen sCap sl) (.slice b' sLen c')) (hnew : new.length = n * size)
    (hfree : ∀ b, H.next ≤ b → b < H'.next → ρ b = none) (h : appendA elem size bytes base sLen sCap sl n new H = some (v, H')) (hroom : sLen + n ≤ c') {une : List Value} (hrel : VRels ρ new une) :
    ∃ w' ρ', (match b' with | some a => storeCells (a.add (sLen * size)) une | none => pure () : Sem Unit).run P w = .ok () w' ∧ Good P.globals.size ρ H w ρ' H' w' ∧ VRel ρ' v (.slice b' (sLen + n) c') := by
  rcases appendA_cases h with ⟨hle, hh⟩ | ⟨hgt, hgf, old, ho, rfl, hh⟩
  · rcases hh with ⟨rfl, rfl, rfl⟩ | ⟨b, o, rfl, hw, rfl⟩
    · obtain ⟨e1, e2, e3⟩ := hs
      injection e3 with e4 e5 e6
      subst e4; subst e1; subst e2; subst e6
      have : n = 0 := by omega
      subst this
      exact ⟨w, ρ, rfl, Good.refl hsim, rfl, rfl, rfl⟩
    · obtain ⟨p, y, c1, hp, e, g1, g2, g5, g6⟩ := hs
      injection e with e1 e2 e3
      subst e1; subst e3
      by_cases hz : new = []
      · subst hz
        cases hrel
        simp only [writeCells, Option.some.injEq] at hw
        subst hw
        exact ⟨w, ρ, rfl, Good.refl hsim, p, y, c', hp, rfl, hle, g2, g5, g6⟩
      · have hc0 : c' ≠ 0 := by
          rintro rfl
          have : n = 0 := by omega
          subst this
          exact hz (List.eq_nil_of_length_eq_zero (by simpa using hnew))
        have hy : y = ⟨p.blk, p.off + o, none⟩ := by
          rcases g5 with g5 | g5
          · exact absurd g5 hc0
          · exact g5
        subst hy
        obtain ⟨w', hr, hg⟩ := writeCells_run (P := P) hsim hp hw hrel
        refine ⟨w', ρ, ?_, hg, p, _, c', hp, rfl, hle, g2, .inr rfl, g6⟩
        simp only [addr_add]
        rw [Nat.add_assoc]
        exact hr
  · rcases hh with ⟨hbs, rfl⟩ | ⟨b, o, c, e, rfl, rfl, hc, hfit, h1, rfl⟩
    · exfalso
      cases base with
      | none =>
        obtain ⟨e1, e2, e3⟩ := hs
        injection e3 with e4 e5 e6
        omega
      | some q =>
        obtain ⟨p, y, c1, hp, e, g1, g2, g5, g6⟩ := hs
        injection e with e1 e2 e3
        subst e3
        rcases hbs with hbs | rfl
        · cases hbs
        · rcases g6 with g6 | ⟨s, hs', _⟩
          · omega
          · cases hs'
    · obtain ⟨p, y, c1, hp, e', g1, g2, g5, g6⟩ := hs
      injection e' with e1 e2 e3
      subst e1; subst e3
      have hy : y = ⟨p.blk, p.off + o, none⟩ := by
        rcases g5 with g5 | g5
        · omega
        · exact g5
      subst hy
      have hslack : o + c' * size ≤ p.tot := by
        rcases g6 with g6 | ⟨s, hs', g6⟩
        · omega
        · injection hs' with hs'; subst hs'; exact g6
      have hold : old = (c.drop o).take (sLen * size) := by
        simp only [srcCells] at ho
        split at ho
        · rename_i h0
          obtain rfl := Option.some.inj ho
          rw [h0]; simp
        · simp only [Nat.le_refl, if_true, cellsAt, hc] at ho
          rw [if_pos hfit] at ho
          exact (Option.some.inj ho).symm
      have holdl : old.length = sLen * size := by rw [hold]; simp; omega
      have hrt := Good.retarget (e2 := elem) hsim (hfree _ (Nat.le_refl _) (by simp)) hc hp hfit
      rw [← hold] at hrt
      have hmul : (sLen + n) * size ≤ c' * size := Nat.mul_le_mul_right _ hroom
      rw [Nat.add_mul] at hmul
      obtain ⟨w', hr, hg⟩ := cells_extended (P := P) (upd_same ρ H.next ⟨p.blk, p.off + o, p.tot - o⟩) new une (sLen * size) 0 hrt.sim (by rw [Heap.get_push, Heap.next_set, if_pos rfl]) (by omega) (by simp only []; omega) (VRels.mono hrt.ext _ _ hrel) h1
      refine ⟨w', _, ?_, (hrt.trans hg).congr ?_ rfl, ⟨p.blk, p.off + o, p.tot - o⟩, _, c', upd_same _ _ _, rfl, Nat.le_refl _, hroom, .inr rfl, .inr ⟨size, rfl, by simp only []; omega⟩⟩
      · simp only [addr_add]
        exact hr
      · intro x
        simp only [Heap.get_set, Heap.get_push, Heap.next_set]
        split <;> rfl

/-- The world's append into a new array. -/
theorem append_new {elem : TypeId} {size bytes : Nat} {base : Option (Nat × Nat)} {sLen sCap : Nat} {sl : Option Nat} {n : Nat} {new : List AV} {H H' : Heap} {v : AV} {w : World}
    (hsim : Sim P.globals.size ρ H w) {b' : Option Addr} {c' : Nat} (hs : VRel ρ (.slice base sLen sCap sl) (.slice b' sLen c')) (hnew : new.length = n * size)
    (hfree : ∀ b, H.next ≤ b → b < H'.next → ρ b = none) (h : appendA elem size bytes base sLen sCap sl n new H = some (v, H')) (hroom : c' < sLen + n) {une : Array Value} (hrel : VRels ρ new une.toList) :
    (sLen + n ≤ 2 ^ 62 ∧ Builtin.nextslicecap (sLen + n) c' * bytes ≤ 2 ^ 48) ∧
    ∃ uold : Array Value, (∀ w', w'.heap = w.heap → (Builtin.firstCells size sLen (.slice b' sLen c')).run P w' = .ok uold w') ∧
    ∀ (newCap : Nat) (rest : Array Value), sLen + n ≤ newCap → rest.size = (newCap - (sLen + n)) * size →
    ∃ ρ', Good P.globals.size ρ H w ρ' H' (({ w with drawn := w.drawn + 1 } : World).alloc (.cells (uold ++ une ++ rest) elem)) ∧ VRel ρ' v (.slice (some ⟨w.heap.size, 0, none⟩) (sLen + n) newCap) := by
  have hcc : sCap ≤ c' ∧ ((base.isNone || sl.isNone) = true → c' = sCap) := by
    cases base with
    | none =>
      obtain ⟨e1, e2, e3⟩ := hs
      injection e3 with e4 e5 e6
      exact ⟨by omega, fun _ => by omega⟩
    | some q =>
      obtain ⟨p, y, c1, hp, e, g1, g2, g5, g6⟩ := hs
      injection e with e1 e2 e3
      subst e3
      refine ⟨g2, fun hk => ?_⟩
      rcases g6 with g6 | ⟨s, hs', _⟩
      · exact g6
      · subst hs'; simp at hk
  rcases appendA_cases h with ⟨hle, hh⟩ | ⟨hgt, hgf, old, ho, rfl, hh⟩
  · omega
  · refine ⟨growFits_ok hgf hcc.2 hroom, ?_⟩
    obtain ⟨uold, hu, hur⟩ := src_ok (P := P) hsim ho hs
    refine ⟨uold, hu, fun newCap rest hcap hrest => ?_⟩
    have hall := hur.append hrel
    have hun : (uold ++ une).toList.length = (old ++ new).length := by rw [Array.toList_append]; exact hall.length
    have hol : (old ++ new).length = (sLen + n) * size := by
      have : old.length = sLen * size := by
        cases base with
        | none =>
          simp only [srcCells, Option.some.injEq] at ho
          subst ho
          obtain ⟨e1, _, _⟩ := hs
          simp [e1]
        | some q =>
          simp only [srcCells] at ho
          split at ho
          · rename_i h0
            obtain rfl := Option.some.inj ho
            simp [h0]
          · simp only [Nat.le_refl, if_true, cellsAt] at ho
            split at ho
            · split at ho
              · obtain rfl := Option.some.inj ho
                simp; omega
              · cases ho
            · cases ho
      rw [List.length_append, this, hnew, Nat.add_mul]
    have hsize : (uold ++ une ++ rest).size = newCap * size := by
      have h1 : (uold ++ une).size = (sLen + n) * size := by
        have := hun
        rw [hol] at this
        simpa using this
      rw [Array.size_append, h1, hrest, ← Nat.add_mul]
      congr 1
      omega
    have htake : ((uold ++ une ++ rest).toList.take (old ++ new).length) = (uold ++ une).toList := by
      rw [Array.toList_append, ← hun, List.take_left]
    have hmul : (sLen + n) * size ≤ newCap * size := Nat.mul_le_mul_right _ hcap
    rcases hh with ⟨hbs, rfl⟩ | ⟨b, o, c, e, rfl, rfl, hc, hfit, h1, rfl⟩
    · have hg1 := good_drawn hsim
      have hg2 := Good.newCells (e := elem) (el := elem) (m := false) (fr := (0, 0)) hg1.sim (hfree _ (Nat.le_refl _) (by simp)) (cs := old ++ new) (C := uold ++ une ++ rest)
        (by rw [htake, Array.toList_append]; exact hall) (by rw [hsize, hol]; exact hmul) (.inl rfl)
      refine ⟨_, hg1.trans hg2, ⟨w.heap.size, 0, (uold ++ une ++ rest).size⟩, _, newCap, upd_same _ _ _, rfl, Nat.le_refl _, hcap, .inr rfl, .inr ⟨size, rfl, by rw [hsize]; simp⟩⟩
    · have hg0 := Good.kill hsim hc
      have hg1 := good_drawn hg0.sim
      have hg2 := Good.newCells (e := elem) (el := elem) (m := false) (fr := (0, 0)) hg1.sim (hfree _ (Nat.le_refl _) (by simp)) (cs := old ++ new) (C := uold ++ une ++ rest)
        (by rw [htake, Array.toList_append]; exact hall) (by rw [hsize, hol]; exact hmul) (.inl rfl)
      refine ⟨_, (hg0.trans hg1).trans hg2, ⟨w.heap.size, 0, (uold ++ une ++ rest).size⟩, _, newCap, upd_same _ _ _, rfl, Nat.le_refl _, hcap, .inr rfl, .inr ⟨size, rfl, by rw [hsize]; simp⟩⟩

end
end Go.Abs
