/- Texts on the abstract machine, joined. -/
import Derived.Test.YtcafkmhlpgajoaaKit06

/- An append in a drawn region, with what is known of its block. -/
namespace Go.Abs
set_option linter.unusedVariables false
section
variable {P : Program} {prims : Prims} {N : Nat}
theorem OpR.appendL {d : Option Tmp} {xs : Array Operand} {ts : Array TypeId} {t : TypeId} {pos : String} {after : Array Edge} {g : Option (Nat × Bool)} {e : Nat → AV} {H : Heap} {v x : AV} {n m u t1 bytes s : Nat} {z cs new : List AV}
    (ha : mapOpt (ev P (tab N e)) xs.toList = some [v, x]) (ht : ∃ t0, ts[0]? = some t0 ∧ elemF P t0 = some (u, bytes, s, z)) (ht1 : ts[1]? = some t1) (hu1 : (P.underlying t1).isSome = true) (hc : isCount P (some t1) = false)
    (own : OwnG H u s v n cs) (hx : srcLen x = some m ∧ srcCells H s m x = some new) (hl : new.length = m * s) (hone : new.all AV.one = true) (hb : (n + m) * bytes ≤ 2 ^ 46) (hn : n + m ≤ 2 ^ 46) :
    ∃ v' H', opR P N e (.call { callee := .builtin .append, args := xs, argTypes := ts }) H = some (v', H') ∧ OwnG H' u s v' (n + m) (cs ++ new) ∧ ButOne (slBlock v) H H' ∧ (slBlock v' = slBlock v ∨ slBlock v' = some H.next) ∧ (∀ z, slBlock v' = some z → slBlock v = some z ∨ z < H'.next) := by
  obtain ⟨t0, h0, hF⟩ := ht
  obtain ⟨base, cap, ex, rfl, _⟩ := own.form
  unfold elemF at hF
  split at hF
  · rename_i u' hu
    split at hF
    · rename_i b' s' z' g1 g2 g3
      split at hF
      · rename_i hz
        injection hF with hF
        simp only [Prod.mk.injEq] at hF
        obtain ⟨rfl, rfl, rfl, rfl⟩ := hF
        obtain ⟨d1, hd1⟩ := Option.isSome_iff_exists.1 hu1
        obtain ⟨v', H', r, o, bo, hbk⟩ := appendA_ownG own hl hone hb hn
        refine ⟨v', H', ?_, o, bo, hbk, appendA_lt r⟩
        rw [opR_builtin, ha, append_eq h0 hu g2 g1 g3 hz (by rw [ht1]; exact hc) ht1 hd1 hx.1 hx.2 hl]
        exact r
      · cases hF
    · cases hF
  · cases hF
section
variable {ops : Array Oper} {i m n0 : Nat} {t : TypeId} {pos : String} {after : Array Edge} {g : Option (Nat × Bool)} {is : List (Nat × Nat)} {e : Nat → AV} {H : Heap} {snaps : List Heap} {K : (Nat → AV) → Heap → Prop}
theorem Dq.appendL {d : Tmp} {xs : Array Operand} {ts : Array TypeId} {w x : AV} {n q u t1 bytes s : Nat} {z cs new : List AV}
    (ho : ops[i]? = some ⟨some d, .call { callee := .builtin .append, args := xs, argTypes := ts }, t, pos, after, g⟩) (hg : Met ops e N g)
    (ha : mapOpt (ev P (tab N e)) xs.toList = some [w, x]) (ht : ∃ t0, ts[0]? = some t0 ∧ elemF P t0 = some (u, bytes, s, z)) (ht1 : ts[1]? = some t1) (hu1 : (P.underlying t1).isSome = true) (hc : isCount P (some t1) = false)
    (own : OwnG H u s w n cs) (hx : srcLen x = some q ∧ srcCells H s q x = some new) (hl : new.length = q * s) (hone : new.all AV.one = true) (hb : (n + q) * bytes ≤ 2 ^ 46) (hn : n + q ≤ 2 ^ 46)
    (h : ∀ v' H', OwnG H' u s v' (n + q) (cs ++ new) → ButOne (slBlock w) H H' → (slBlock v' = slBlock w ∨ slBlock v' = some H.next) → (∀ z, slBlock v' = some z → slBlock w = some z ∨ z < H'.next) → Dq P prims N ops n0 is (setE e d v') H' (H' :: snaps) K) :
    Dq P prims N ops n0 ((i, m) :: is) e H snaps K := by
  obtain ⟨v', H', hr, o, bo, hbk, hlt⟩ := OpR.appendL (d := some d) (t := t) (pos := pos) (after := after) (g := g) ha ht ht1 hu1 hc own hx hl hone hb hn
  exact Dq.heavyG ho rfl (Met.w (o := ⟨some d, .call { callee := .builtin .append, args := xs, argTypes := ts }, t, pos, after, g⟩) hg) fun hp hw => OpR.mk (v := v') (H' := H') (runOp_opR hr) (h v' H' o bo hbk hlt)
end
end
end Go.Abs
