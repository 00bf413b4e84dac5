/- Texts on the abstract machine, joined. -/
import Derived.Test.YtmggofidibhabaaKit08

/- An append, with what is known of its block. -/
namespace Go.Abs
set_option linter.unusedVariables false

theorem appendA_lt {elem : TypeId} {size bytes sLen sCap n : Nat} {base : Option (Nat × Nat)} {sl : Option Nat} {new : List AV} {H H' : Heap} {v' : AV} (h : appendA elem size bytes base sLen sCap sl n new H = some (v', H')) :
    ∀ z, slBlock v' = some z → slBlock (.slice base sLen sCap sl) = some z ∨ z < H'.next := by
  intro z hz
  unfold appendA at h
  split at h
  · split at h
    · injection h with h; injection h with h1 h2; subst h1; simp [slBlock] at hz
    · split at h
      · injection h with h; injection h with h1 h2; subst h1; exact .inl hz
      · cases h
  · split at h
    · split at h
      · cases h
      · split at h
        · split at h
          · split at h
            · injection h with h; injection h with h1 h2; subst h1; subst h2; simp [slBlock] at hz; exact .inr (by simp; omega)
            · cases h
          · cases h
        · injection h with h; injection h with h1 h2; subst h1; subst h2; simp [slBlock] at hz; exact .inr (by simp; omega)
    · cases h

theorem appendA_zero {elem : TypeId} {size bytes sLen sCap : Nat} {base : Option (Nat × Nat)} {sl : Option Nat} {H H' : Heap} {v' : AV} {cs : List AV} (o : OwnG H elem size (.slice base sLen sCap sl) sLen cs) (h : appendA elem size bytes base sLen sCap sl 0 [] H = some (v', H')) : v' = .slice base sLen sCap sl ∧ H' = H := by
  obtain ⟨a, cap, ex, e, hc, _⟩ := o.form
  injection e with e1 _ e3 e4
  subst e1; subst e3; subst e4
  unfold appendA at h
  rw [if_pos (by omega)] at h
  cases base with
  | none =>
    simp only [Option.some.injEq, Prod.mk.injEq] at h
    obtain ⟨rfl, rfl⟩ := h
    rcases o with ⟨a, e, rfl, rfl⟩ | ⟨b, o, c0, cap, sl, e, _⟩
    · injection e with _ _ e3 e4
      subst e3; subst e4
      exact ⟨rfl, rfl⟩
    · injection e with e1; cases e1
  | some p =>
    simp only [writeCells, Option.some.injEq, Prod.mk.injEq, Nat.add_zero] at h
    obtain ⟨rfl, rfl⟩ := h
    exact ⟨rfl, rfl⟩
section
variable {P : Program} {prims : Prims} {N : Nat}
theorem Oq.appendL {ops : Array Oper} {d : Tmp} {xs : Array Operand} {ts : Array TypeId} {t : TypeId} {pos : String} {after : Array Edge} {os : List Oper} {e : Nat → AV} {H : Heap} {K : (Nat → AV) → Heap → Prop} {v x : AV} {n m u t1 bytes s : Nat} {z cs new : List AV}
    (ha : mapOpt (ev P (tab N e)) xs.toList = some [v, x]) (ht : ∃ t0, ts[0]? = some t0 ∧ elemF P t0 = some (u, bytes, s, z)) (ht1 : ts[1]? = some t1) (hu1 : (P.underlying t1).isSome = true) (hc : isCount P (some t1) = false)
    (own : OwnG H u s v n cs) (hx : srcLen x = some m ∧ srcCells H s m x = some new) (hl : new.length = m * s) (hone : new.all AV.one = true) (hb : (n + m) * bytes ≤ 2 ^ 46) (hn : n + m ≤ 2 ^ 46)
    (h : ∀ v' H', OwnG H' u s v' (n + m) (cs ++ new) → ButOne (slBlock v) H H' → (slBlock v' = slBlock v ∨ slBlock v' = some H.next) → (∀ z, slBlock v' = some z → slBlock v = some z ∨ z < H'.next) → Oq P prims N ops os (setE e d v') H' K) :
    Oq P prims N ops ({ dst := some d, op := .call { callee := .builtin .append, args := xs, argTypes := ts }, type := t, pos := pos, after := after, guard := none } :: os) e H K := by
  obtain ⟨t0, h0, hF⟩ := ht
  obtain ⟨base, cap, ex, rfl, _⟩ := own.form
  unfold elemF at hF
  split at hF
  · rename_i u' hu
    split at hF
    · rename_i b' s' z' g1 g2 g3
      split at hF
      · rename_i hz
        injection hF with hF
        simp only [Prod.mk.injEq] at hF
        obtain ⟨rfl, rfl, rfl, rfl⟩ := hF
        obtain ⟨d1, hd1⟩ := Option.isSome_iff_exists.1 hu1
        obtain ⟨v', H', r, o, bo, hbk⟩ := appendA_ownG own hl hone hb hn
        refine Oq.o1 ?_ (h v' H' o bo hbk (appendA_lt r))
        rw [opR_builtin, ha, append_eq h0 hu g2 g1 g3 hz (by rw [ht1]; exact hc) ht1 hd1 hx.1 hx.2 hl]
        exact r
      · cases hF
    · cases hF
  · cases hF
theorem Oq.appendZ {ops : Array Oper} {d : Tmp} {xs : Array Operand} {ts : Array TypeId} {t : TypeId} {pos : String} {after : Array Edge} {os : List Oper} {e : Nat → AV} {H : Heap} {K : (Nat → AV) → Heap → Prop} {v x : AV} {n m u t1 bytes s : Nat} {z cs new : List AV}
    (ha : mapOpt (ev P (tab N e)) xs.toList = some [v, x]) (ht : ∃ t0, ts[0]? = some t0 ∧ elemF P t0 = some (u, bytes, s, z)) (ht1 : ts[1]? = some t1) (hu1 : (P.underlying t1).isSome = true) (hc : isCount P (some t1) = false)
    (own : OwnG H u s v n cs) (hx : srcLen x = some m ∧ srcCells H s m x = some new) (hl : new.length = m * s) (hone : new.all AV.one = true) (hb : (n + m) * bytes ≤ 2 ^ 46) (hn : n + m ≤ 2 ^ 46)
    (h : ∀ v' H', OwnG H' u s v' (n + m) (cs ++ new) → ButOne (slBlock v) H H' → (slBlock v' = slBlock v ∨ slBlock v' = some H.next) → ((∀ z, slBlock v' = some z → slBlock v = some z ∨ z < H'.next) ∧ (m = 0 → v' = v ∧ H' = H)) → Oq P prims N ops os (setE e d v') H' K) :
    Oq P prims N ops ({ dst := some d, op := .call { callee := .builtin .append, args := xs, argTypes := ts }, type := t, pos := pos, after := after, guard := none } :: os) e H K := by
  obtain ⟨t0, h0, hF⟩ := ht
  obtain ⟨base, cap, ex, rfl, _⟩ := own.form
  unfold elemF at hF
  split at hF
  · rename_i u' hu
    split at hF
    · rename_i b' s' z' g1 g2 g3
      split at hF
      · rename_i hz
        injection hF with hF
        simp only [Prod.mk.injEq] at hF
        obtain ⟨rfl, rfl, rfl, rfl⟩ := hF
        obtain ⟨d1, hd1⟩ := Option.isSome_iff_exists.1 hu1
        obtain ⟨v', H', r, o, bo, hbk⟩ := appendA_ownG own hl hone hb hn
        refine Oq.o1 ?_ (h v' H' o bo hbk ⟨appendA_lt r, fun h0 => by
          subst h0
          have : new = [] := List.eq_nil_of_length_eq_zero (by simpa using hl)
          subst this
          exact appendA_zero own r⟩)
        rw [opR_builtin, ha, append_eq h0 hu g2 g1 g3 hz (by rw [ht1]; exact hc) ht1 hd1 hx.1 hx.2 hl]
        exact r
      · cases hF
    · cases hF
  · cases hF
/-- An append that fits: the slice stays where it is. -/
theorem Oq.appendFit {ops : Array Oper} {d : Tmp} {xs : Array Operand} {ts : Array TypeId} {t : TypeId} {pos : String} {after : Array Edge} {os : List Oper} {e : Nat → AV} {H : Heap} {K : (Nat → AV) → Heap → Prop} {x : AV} {b o n cap : Nat} {sl : Option Nat} {m u t1 bytes s : Nat} {z c new : List AV} {mk : Bool}
    (ha : mapOpt (ev P (tab N e)) xs.toList = some [.slice (some (b, o)) n cap sl, x]) (ht : ∃ t0, ts[0]? = some t0 ∧ elemF P t0 = some (u, bytes, s, z)) (ht1 : ts[1]? = some t1) (hu1 : (P.underlying t1).isSome = true) (hc : isCount P (some t1) = false)
    (hb : b < H.next) (hg : H.get b = some (.cells c u true mk)) (hfit : n + m ≤ cap) (hcap : o + cap * s ≤ c.length) (hx : srcLen x = some m ∧ srcCells H s m x = some new) (hl : new.length = m * s) (hone : new.all AV.one = true)
    (h : ∀ H', H'.get b = some (.cells (c.take (o + n * s) ++ (new ++ c.drop (o + n * s + m * s))) u true mk) → Upd (fun z => z = b) H H' → Oq P prims N ops os (setE e d (.slice (some (b, o)) (n + m) cap sl)) H' K) :
    Oq P prims N ops ({ dst := some d, op := .call { callee := .builtin .append, args := xs, argTypes := ts }, type := t, pos := pos, after := after, guard := none } :: os) e H K := by
  obtain ⟨t0, h0, hF⟩ := ht
  unfold elemF at hF
  split at hF
  · rename_i u' hu
    split at hF
    · rename_i b' s' z' g1 g2 g3
      split at hF
      · rename_i hz
        injection hF with hF
        simp only [Prod.mk.injEq] at hF
        obtain ⟨rfl, rfl, rfl, rfl⟩ := hF
        obtain ⟨d1, hd1⟩ := Option.isSome_iff_exists.1 hu1
        have q1 : (n + m) * s' ≤ cap * s' := Nat.mul_le_mul_right s' hfit
        rw [Nat.add_mul] at q1
        have key : ∃ H', appendA u' s' b' (some (b, o)) n cap sl m new H = some (.slice (some (b, o)) (n + m) cap sl, H') ∧ H'.get b = some (.cells (c.take (o + n * s') ++ (new ++ c.drop (o + n * s' + m * s'))) u' true mk) ∧ Upd (fun z => z = b) H H' := by
          unfold appendA
          rw [if_pos hfit]
          by_cases hn : new = []
          · subst hn
            have hm : m * s' = 0 := by simpa using hl.symm
            refine ⟨H, by simp [writeCells], ?_, Upd.rfl⟩
            rw [hm, Nat.add_zero, List.nil_append, List.take_append_drop, hg]
          · have hw := writeCells_eq (o := o + n * s') hg (by omega) (List.length_pos_iff.2 hn) hone
            simp only [hw]
            refine ⟨_, rfl, ?_, Upd.rfl.set _ hb fun _ => rfl⟩
            rw [Heap.get_set, if_pos rfl, hl]
        obtain ⟨H', r, hg', hu'⟩ := key
        refine Oq.o1 ?_ (h H' hg' hu')
        rw [opR_builtin, ha, append_eq h0 hu g2 g1 g3 hz (by rw [ht1]; exact hc) ht1 hd1 hx.1 hx.2 hl]
        exact r
      · cases hF
    · cases hF
  · cases hF
theorem zeros_len (z : List AV) : ∀ n, (zeros z n).length = n * z.length
  | 0 => by simp [zeros]
  | n + 1 => by simp only [zeros, List.length_append, zeros_len z n, Nat.add_mul]; omega
theorem zeros_all {z : List AV} (h : z.all AV.one = true) : ∀ n, (zeros z n).all AV.one = true
  | 0 => rfl
  | n + 1 => by simp only [zeros, List.all_append, h, zeros_all h n, Bool.and_self]
/-- A piece of a block cleared, whatever its elements. -/
theorem Oq.clearG {ops : Array Oper} {xs : Array Operand} {ts : Array TypeId} {t : TypeId} {pos : String} {after : Array Edge} {os : List Oper} {e : Nat → AV} {H : Heap} {K : (Nat → AV) → Heap → Prop} {b o k c s : Nat} {ex : Option Nat} {cd : List AV} {u u1 : TypeId} {mk : Bool} {bytes : Nat} {z : List AV}
    (ha : mapOpt (ev P (tab N e)) xs.toList = some [.slice (some (b, o)) k c ex]) (ht : ∃ t1, ts[0]? = some t1 ∧ elemF P t1 = some (u1, bytes, s, z)) (h0 : 0 < k) (hs : 0 < s)
    (hb : H.get b = some (.cells cd u true mk)) (h1 : o + k * s ≤ cd.length) (hone : z.all AV.one = true)
    (h : Oq P prims N ops os e (H.set b (.cells (cd.take o ++ (zeros z k ++ cd.drop (o + k * s))) u true mk)) K) :
    Oq P prims N ops ({ dst := none, op := .call { callee := .builtin .clear, args := xs, argTypes := ts }, type := t, pos := pos, after := after, guard := none } :: os) e H K := by
  obtain ⟨t1, ht, hF⟩ := ht
  refine Oq.o0 (v := .undef) (H' := H.set b (.cells (cd.take o ++ (zeros z k ++ cd.drop (o + k * s))) u true mk)) ?_ h
  rw [opR_builtin, ha, builtinR_eq]
  unfold elemF at hF
  split at hF
  · rename_i u' hu
    split at hF
    · rename_i b' s' z' g1 g2 g3
      split at hF
      · rename_i hz
        injection hF with hF
        simp only [Prod.mk.injEq] at hF
        obtain ⟨rfl, rfl, rfl, rfl⟩ := hF
        simp only [builtinSem, clearSem, ht, hu]
        rw [if_neg (by omega)]
        have hzl := zeros_len z'.cells k
        rw [hz] at hzl
        have hw := writeCells_eq (o := o) (vs := zeros z'.cells k) hb (by omega) (by rw [hzl]; exact Nat.mul_pos h0 hs) (zeros_all hone k)
        rw [hzl] at hw
        simp only [g2, g3, hz, ne_eq, not_true, if_false, hw, Sm.run]
      · cases hF
    · cases hF
  · cases hF
end
end Go.Abs
