/- Texts on the abstract machine, joined. -/
import Derived.Test.YtllnhgcndinodaaKit04
import Derived.Lib.SlKeysI
import Derived.Maps.RangeWalk

/- Slices of the run's own at any place of their block, with room behind them. -/
namespace Go.Abs
set_option linter.unusedVariables false
section
variable {H : Heap}

/-- A slice to which may be appended: nothing else looks at the room behind it. -/
def OwnG (H : Heap) (elem : TypeId) (s : Nat) (v : AV) (n : Nat) (cs : List AV) : Prop :=
  (∃ a, v = .slice a 0 0 none ∧ n = 0 ∧ cs = []) ∨
  ∃ b o c cap sl, v = .slice (some (b, o)) n cap sl ∧ n ≤ cap ∧ (sl = none ∨ sl = some s) ∧ b < H.next ∧ H.get b = some (.cells c elem true false) ∧ o + cap * s ≤ c.length ∧ (c.drop o).take (n * s) = cs

theorem OwnG.of {elem : TypeId} {s n : Nat} {v : AV} {cs : List AV} (h : OwnSl H elem s v n cs) : OwnG H elem s v n cs := by
  rcases h with ⟨rfl, rfl, rfl⟩ | ⟨b, sl, rfl, h1, h2, h3, h4⟩
  · exact .inl ⟨none, rfl, rfl, rfl⟩
  · exact .inr ⟨b, 0, cs, n, sl, rfl, Nat.le_refl _, h1, h3, h4, by omega, by rw [List.drop_zero, List.take_of_length_le (by omega)]⟩
theorem mul_le' {n m s : Nat} (h : n ≤ m) : n * s ≤ m * s := Nat.mul_le_mul_right s h
theorem OwnG.len {elem : TypeId} {s n : Nat} {v : AV} {cs : List AV} (h : OwnG H elem s v n cs) : cs.length = n * s := by
  rcases h with ⟨a, rfl, rfl, rfl⟩ | ⟨b, o, c, cap, sl, rfl, h0, h1, h2, h3, h4, h5⟩
  · simp
  · have := mul_le' (s := s) h0
    rw [← h5, List.length_take, List.length_drop]; omega
theorem OwnG.sl {elem : TypeId} {s n : Nat} {v : AV} {cs : List AV} (h : OwnG H elem s v n cs) : Sl H s v n cs := by
  have hl := h.len
  unfold Sl
  refine ⟨hl, ?_⟩
  rcases h with ⟨a, rfl, rfl, rfl⟩ | ⟨b, o, c, cap, sl, rfl, h0, h1, h2, h3, h4, h5⟩
  · cases a with
    | none => exact .inl ⟨rfl, rfl⟩
    | some p => exact .inr ⟨p.1, p.2, 0, none, rfl, Nat.le_refl _, .inl rfl, fun h => by omega⟩
  · have := mul_le' (s := s) h0
    exact .inr ⟨b, o, cap, sl, rfl, h0, h1, fun _ => ⟨h2, c, elem, true, false, h3, by omega, h5⟩⟩
theorem OwnG.form {elem : TypeId} {s n : Nat} {v : AV} {cs : List AV} (h : OwnG H elem s v n cs) : ∃ a cap ex, v = .slice a n cap ex ∧ n ≤ cap ∧ (ex = none ∨ ex = some s) := h.sl.form
theorem OwnG.keep {H' : Heap} {elem : TypeId} {s n : Nat} {v : AV} {cs : List AV} (h : OwnG H elem s v n cs) (hn : H.next ≤ H'.next) (hg : ∀ b, slBlock v = some b → b < H.next → H'.get b = H.get b) : OwnG H' elem s v n cs := by
  rcases h with ⟨a, rfl, rfl, rfl⟩ | ⟨b, o, c, cap, sl, rfl, h0, h1, h2, h3, h4, h5⟩
  · exact .inl ⟨a, rfl, rfl, rfl⟩
  · exact .inr ⟨b, o, c, cap, sl, rfl, h0, h1, by omega, (hg b rfl h2).trans h3, h4, h5⟩
theorem OwnG.upd {H' : Heap} {elem : TypeId} {s n : Nat} {v : AV} {cs : List AV} {fp : Nat → Prop} (h : OwnG H elem s v n cs) (u : Upd fp H H') (hd : ∀ b, slBlock v = some b → ¬ fp b) : OwnG H' elem s v n cs :=
  h.keep u.next fun b hb hl => u.keep b hl (hd b hb)
theorem OwnG.kept {H' : Heap} {elem : TypeId} {s n : Nat} {v : AV} {cs : List AV} (h : OwnG H elem s v n cs) (u : Keep H H') : OwnG H' elem s v n cs := h.upd u fun _ _ => id
theorem OwnG.butOne {H' : Heap} {elem : TypeId} {s n : Nat} {v : AV} {cs : List AV} {ob : Option Nat} (h : OwnG H elem s v n cs) (u : ButOne ob H H') (hd : ∀ b, slBlock v = some b → ob ≠ some b) : OwnG H' elem s v n cs :=
  h.keep u.1 fun b hb hl => u.2.2 b hl fun e => hd b hb e.symm
theorem OwnG.nil {elem : TypeId} {s : Nat} : OwnG H elem s (.slice none 0 0 none) 0 [] := .inl ⟨none, rfl, rfl, rfl⟩
theorem OwnG.empty {elem : TypeId} {s : Nat} (a : Option (Nat × Nat)) : OwnG H elem s (.slice a 0 0 none) 0 [] := .inl ⟨a, rfl, rfl, rfl⟩
theorem OwnG.at {elem : TypeId} {s n cap : Nat} {a : Option (Nat × Nat)} {ex : Option Nat} {cs : List AV} (h : OwnG H elem s (.slice a n cap ex) n cs) (h0 : 0 < n) :
    ∃ b o c, a = some (b, o) ∧ n ≤ cap ∧ (ex = none ∨ ex = some s) ∧ b < H.next ∧ H.get b = some (.cells c elem true false) ∧ o + cap * s ≤ c.length ∧ o + n * s ≤ c.length ∧ (c.drop o).take (n * s) = cs := by
  rcases h with ⟨a, e, rfl, rfl⟩ | ⟨b, o, c, cap, sl, e, h0, h1, h2, h3, h4, h5⟩
  · omega
  · injection e with e1 _ e2 e3
    subst e1; subst e2; subst e3
    have := mul_le' (s := s) h0
    exact ⟨b, o, c, rfl, h0, h1, h2, h3, h4, by omega, h5⟩
/-- The block filled anew. -/
theorem OwnG.refill {H' : Heap} {elem : TypeId} {s n cap b o : Nat} {ex : Option Nat} {c : List AV} (h0 : n ≤ cap) (h1 : ex = none ∨ ex = some s) (hb : b < H'.next) (hg : H'.get b = some (.cells c elem true false)) (hl : o + cap * s ≤ c.length) :
    OwnG H' elem s (.slice (some (b, o)) n cap ex) n ((c.drop o).take (n * s)) := .inr ⟨b, o, c, cap, ex, rfl, h0, h1, hb, hg, hl, rfl⟩
/-- Its end cut off in front: what is left is its own still. -/
theorem OwnG.rest {elem : TypeId} {s n cap b o k : Nat} {ex : Option Nat} {cs : List AV} (h : OwnG H elem s (.slice (some (b, o)) n cap ex) n cs) (hk : k ≤ n) (hn : 0 < n) : OwnG H elem s (.slice (some (b, o + k * s)) (n - k) (cap - k) ex) (n - k) (cs.drop (k * s)) := by
  rcases h with ⟨a, e, rfl, rfl⟩ | ⟨b, o, c, cap, sl, e, h0, h1, h2, h3, h4, h5⟩
  · omega
  · injection e with e1 _ e2 e3
    simp only [Option.some.injEq, Prod.mk.injEq] at e1
    obtain ⟨rfl, rfl⟩ := e1
    subst e2; subst e3
    refine .inr ⟨_, _, c, _, _, rfl, by omega, h1, h2, h3, ?_, ?_⟩
    · have : (cap - k) * s + k * s = cap * s := by rw [← Nat.add_mul]; congr 1; omega
      omega
    · rw [← h5, List.drop_take, List.drop_drop]
      congr 1
      have : (n - k) * s + k * s = n * s := by rw [← Nat.add_mul]; congr 1; omega
      omega

theorem drop_writeAt {vs c : List AV} {o k : Nat} (h : o + k + vs.length ≤ c.length) : (writeAt c (o + k) vs).drop o = writeAt (c.drop o) k vs := by
  rw [writeAt_eq _ _ _ h, writeAt_eq _ _ _ (by rw [List.length_drop]; omega)]
  rw [List.drop_append_of_le_length (by rw [List.length_take]; omega), List.drop_take, List.drop_drop, show o + k - o = k by omega, show o + (k + vs.length) = o + k + vs.length by omega]
theorem take_writeAt {vs c : List AV} {m k : Nat} (h : k + vs.length ≤ m) (hm : m ≤ c.length) : (writeAt c k vs).take m = writeAt (c.take m) k vs := by
  rw [writeAt_eq _ _ _ (by omega), writeAt_eq _ _ _ (by rw [List.length_take]; omega)]
  rw [List.take_append, List.take_append, List.take_take, List.take_take, List.length_take, show min k c.length = k by omega, show min m k = k by omega, show min k m = k by omega, List.take_of_length_le (l := vs) (by omega), List.drop_take, show m - k - vs.length = m - (k + vs.length) by omega]

theorem appendA_ownG {elem : TypeId} {s bytes n m : Nat} {base : Option (Nat × Nat)} {c : Nat} {ex : Option Nat} {cs new : List AV} (h : OwnG H elem s (.slice base n c ex) n cs)
    (hl : new.length = m * s) (hone : new.all AV.one = true) (hb : (n + m) * bytes ≤ 2 ^ 46) (hn : n + m ≤ 2 ^ 46) :
    ∃ v' H', appendA elem s bytes base n c ex m new H = some (v', H') ∧ OwnG H' elem s v' (n + m) (cs ++ new) ∧ ButOne (slBlock (.slice base n c ex)) H H' ∧
      (slBlock v' = slBlock (.slice base n c ex) ∨ slBlock v' = some H.next) := by
  have hgf : ∀ c k, growFits (n + m) c bytes k = true := by
    intro c k
    simp only [growFits, Bool.and_eq_true, Bool.or_eq_true, decide_eq_true_eq]
    exact ⟨by omega, .inl ⟨hb, hn⟩⟩
  have hsrc : srcCells H s n (.slice base n c ex) = some cs := h.sl.src.1
  have hcl := h.len
  have hlen : (cs ++ new).length = (n + m) * s := by rw [List.length_append, hcl, hl, Nat.add_mul]
  unfold appendA
  by_cases hfit : n + m ≤ c
  · rw [if_pos hfit]
    rcases h with ⟨a, e1, rfl, rfl⟩ | ⟨b, o, c0, cap, sl, e1, h0, h1, h2, h3, h4, h5⟩
    · injection e1 with e1 _ e2 e3
      subst e1; subst e2; subst e3
      obtain rfl : m = 0 := by omega
      have hnew : new = [] := List.eq_nil_of_length_eq_zero (by simpa using hl)
      subst hnew
      cases base with
      | none => exact ⟨_, H, rfl, .inl ⟨none, rfl, rfl, rfl⟩, ⟨Nat.le_refl _, id, fun _ _ _ => rfl⟩, .inl rfl⟩
      | some p => exact ⟨_, H, by simp [writeCells], .inl ⟨some p, rfl, rfl, rfl⟩, ⟨Nat.le_refl _, id, fun _ _ _ => rfl⟩, .inl rfl⟩
    · injection e1 with e1 _ e2 e3
      subst e1; subst e2; subst e3
      have q1 := mul_le' (s := s) hfit
      rw [Nat.add_mul] at q1
      by_cases hnew : new = []
      · subst hnew
        refine ⟨_, H, by simp [writeCells], .inr ⟨b, o, c0, c, ex, rfl, hfit, h1, h2, h3, h4, ?_⟩, ⟨Nat.le_refl _, id, fun _ _ _ => rfl⟩, .inl rfl⟩
        have : m * s = 0 := by simpa using hl.symm
        rw [Nat.add_mul, this, Nat.add_zero, List.append_nil]
        exact h5
      · have hnl : 0 < new.length := List.length_pos_iff.2 hnew
        have hw := writeCells_eq (o := o + n * s) h3 (by omega) hnl hone
        rw [← writeAt_eq _ _ _ (by omega)] at hw
        simp only [hw]
        refine ⟨_, _, rfl, .inr ⟨b, o, _, c, ex, rfl, hfit, h1, by simpa using h2, by rw [Heap.get_set, if_pos rfl], by rw [length_writeAt]; exact h4, ?_⟩, ⟨by simp, fun hwf => set_wf h2 _ hwf, fun x hx hne => by rw [Heap.get_set, if_neg (fun e => hne (by rw [e]; rfl))]⟩, .inl rfl⟩
        rw [drop_writeAt (by omega), writeAt_eq _ _ _ (by rw [List.length_drop]; omega), Nat.add_mul, h5, ← List.append_assoc, List.take_append_of_le_length (by rw [List.length_append, hcl]; omega), List.take_of_length_le (by rw [List.length_append, hcl]; omega)]
  · rw [if_neg hfit, if_pos (hgf _ _), hsrc]
    have hm : m ≠ 0 := by
      rintro rfl
      rcases h with ⟨a, e1, rfl, rfl⟩ | ⟨b, o, c0, cap, sl, e1, h0, h1, h2, h3, h4, h5⟩
      · omega
      · injection e1 with _ _ e2; omega
    have way : ∀ (H1 : Heap), H1 = H → OwnG (H1.push (.cells (cs ++ new) elem true false)) elem s (.slice (some (H1.next, 0)) (n + m) (n + m) (some s)) (n + m) (cs ++ new) := fun H1 _ =>
      .inr ⟨H1.next, 0, cs ++ new, n + m, some s, rfl, Nat.le_refl _, .inr rfl, by simp, by rw [Heap.get_push, if_pos rfl], by omega, by rw [List.drop_zero, List.take_of_length_le (by omega)]⟩
    rcases h with ⟨a, e1, rfl, rfl⟩ | ⟨b, o, c0, cap, sl, e1, h0, h1, h2, h3, h4, h5⟩
    · injection e1 with e1 _ e2 e3
      subst e1; subst e2; subst e3
      cases base with
      | none => exact ⟨_, _, rfl, way H rfl, ⟨by simp, push_wf _, fun b hb _ => by rw [Heap.get_push, if_neg (by omega)]⟩, .inr rfl⟩
      | some p => exact ⟨_, _, rfl, way H rfl, ⟨by simp, push_wf _, fun b hb _ => by rw [Heap.get_push, if_neg (by omega)]⟩, .inr rfl⟩
    · injection e1 with e1 _ e2 e3
      subst e1; subst e2; subst e3
      rcases h1 with rfl | rfl
      · exact ⟨_, _, rfl, way H rfl, ⟨by simp, push_wf _, fun b hb _ => by rw [Heap.get_push, if_neg (by omega)]⟩, .inr rfl⟩
      · have q1 := mul_le' (s := s) h0
        simp only [h3]
        rw [if_pos ⟨trivial, by omega, hone⟩]
        refine ⟨_, _, rfl, .inr ⟨H.next, 0, cs ++ new, n + m, some s, rfl, Nat.le_refl _, .inr rfl, by simp, ?_, by omega, by rw [List.drop_zero, List.take_of_length_le (by omega)]⟩, ⟨by simp, ?_, ?_⟩, .inr rfl⟩
        · rw [Heap.get_push, Heap.next_set, if_pos rfl]
        · intro hw
          exact push_wf _ (set_wf h2 _ hw)
        · intro x hx hne
          rw [Heap.get_push, Heap.next_set, if_neg (by omega), Heap.get_set, if_neg (fun e => hne (by rw [e]; rfl))]
end

section
variable {P : Program} {prims : Prims} {N : Nat}
theorem OpR.appendG {d : Option Tmp} {xs : Array Operand} {ts : Array TypeId} {t : TypeId} {pos : String} {after : Array Edge} {g : Option (Nat × Bool)} {e : Nat → AV} {H : Heap} {v x : AV} {n m u t1 bytes s : Nat} {z cs new : List AV}
    (ha : mapOpt (ev P (tab N e)) xs.toList = some [v, x]) (ht : ∃ t0, ts[0]? = some t0 ∧ elemF P t0 = some (u, bytes, s, z)) (ht1 : ts[1]? = some t1) (hu1 : (P.underlying t1).isSome = true) (hc : isCount P (some t1) = false)
    (own : OwnG H u s v n cs) (hx : srcLen x = some m ∧ srcCells H s m x = some new) (hl : new.length = m * s) (hone : new.all AV.one = true) (hb : (n + m) * bytes ≤ 2 ^ 46) (hn : n + m ≤ 2 ^ 46) :
    ∃ v' H', opR P N e (.call { callee := .builtin .append, args := xs, argTypes := ts }) H = some (v', H') ∧ OwnG H' u s v' (n + m) (cs ++ new) ∧ ButOne (slBlock v) H H' ∧ (slBlock v' = slBlock v ∨ slBlock v' = some H.next) := by
  obtain ⟨t0, h0, hF⟩ := ht
  obtain ⟨base, cap, ex, rfl, _⟩ := own.form
  unfold elemF at hF
  split at hF
  · rename_i u' hu
    split at hF
    · rename_i b' s' z' g1 g2 g3
      split at hF
      · rename_i hz
        injection hF with hF
        simp only [Prod.mk.injEq] at hF
        obtain ⟨rfl, rfl, rfl, rfl⟩ := hF
        obtain ⟨d1, hd1⟩ := Option.isSome_iff_exists.1 hu1
        obtain ⟨v', H', r, o, bo, hbk⟩ := appendA_ownG own hl hone hb hn
        refine ⟨v', H', ?_, o, bo, hbk⟩
        rw [opR_builtin, ha, append_eq h0 hu g2 g1 g3 hz (by rw [ht1]; exact hc) ht1 hd1 hx.1 hx.2 hl]
        exact r
      · cases hF
    · cases hF
  · cases hF
theorem Oq.appendG {ops : Array Oper} {d : Tmp} {xs : Array Operand} {ts : Array TypeId} {t : TypeId} {pos : String} {after : Array Edge} {os : List Oper} {e : Nat → AV} {H : Heap} {K : (Nat → AV) → Heap → Prop} {v x : AV} {n m u t1 bytes s : Nat} {z cs new : List AV}
    (ha : mapOpt (ev P (tab N e)) xs.toList = some [v, x]) (ht : ∃ t0, ts[0]? = some t0 ∧ elemF P t0 = some (u, bytes, s, z)) (ht1 : ts[1]? = some t1) (hu1 : (P.underlying t1).isSome = true) (hc : isCount P (some t1) = false)
    (own : OwnG H u s v n cs) (hx : srcLen x = some m ∧ srcCells H s m x = some new) (hl : new.length = m * s) (hone : new.all AV.one = true) (hb : (n + m) * bytes ≤ 2 ^ 46) (hn : n + m ≤ 2 ^ 46)
    (h : ∀ v' H', OwnG H' u s v' (n + m) (cs ++ new) → ButOne (slBlock v) H H' → (slBlock v' = slBlock v ∨ slBlock v' = some H.next) → Oq P prims N ops os (setE e d v') H' K) :
    Oq P prims N ops ({ dst := some d, op := .call { callee := .builtin .append, args := xs, argTypes := ts }, type := t, pos := pos, after := after, guard := none } :: os) e H K := by
  obtain ⟨v', H', hr, o, bo, hbk⟩ := OpR.appendG (d := some d) (t := t) (pos := pos) (after := after) (g := none) ha ht ht1 hu1 hc own hx hl hone hb hn
  exact Oq.o1 hr (h v' H' o bo hbk)
section
variable {ops : Array Oper} {i m n0 : Nat} {t : TypeId} {pos : String} {after : Array Edge} {g : Option (Nat × Bool)} {is : List (Nat × Nat)} {e : Nat → AV} {H : Heap} {snaps : List Heap} {K : (Nat → AV) → Heap → Prop}
theorem Dq.appendG {d : Tmp} {xs : Array Operand} {ts : Array TypeId} {w x : AV} {n q u t1 bytes s : Nat} {z cs new : List AV}
    (ho : ops[i]? = some ⟨some d, .call { callee := .builtin .append, args := xs, argTypes := ts }, t, pos, after, g⟩) (hg : Met ops e N g)
    (ha : mapOpt (ev P (tab N e)) xs.toList = some [w, x]) (ht : ∃ t0, ts[0]? = some t0 ∧ elemF P t0 = some (u, bytes, s, z)) (ht1 : ts[1]? = some t1) (hu1 : (P.underlying t1).isSome = true) (hc : isCount P (some t1) = false)
    (own : OwnG H u s w n cs) (hx : srcLen x = some q ∧ srcCells H s q x = some new) (hl : new.length = q * s) (hone : new.all AV.one = true) (hb : (n + q) * bytes ≤ 2 ^ 46) (hn : n + q ≤ 2 ^ 46)
    (h : ∀ v' H', OwnG H' u s v' (n + q) (cs ++ new) → ButOne (slBlock w) H H' → (slBlock v' = slBlock w ∨ slBlock v' = some H.next) → Dq P prims N ops n0 is (setE e d v') H' (H' :: snaps) K) :
    Dq P prims N ops n0 ((i, m) :: is) e H snaps K := by
  obtain ⟨v', H', hr, o, bo, hbk⟩ := OpR.appendG (d := some d) (t := t) (pos := pos) (after := after) (g := g) ha ht ht1 hu1 hc own hx hl hone hb hn
  exact Dq.heavyG ho rfl (Met.w (o := ⟨some d, .call { callee := .builtin .append, args := xs, argTypes := ts }, t, pos, after, g⟩) hg) fun hp hw => OpR.mk (v := v') (H' := H') (runOp_opR hr) (h v' H' o bo hbk)
end
end
end Go.Abs

/- Nested data that is read, told by shapes: what cells mean, as long as the blocks that they name last. -/
namespace Go.Abs
set_option linter.unusedVariables false

structure Shape (α : Type) where
  s : Nat
  R : Heap → (Nat → Prop) → List AV → α → Prop
  len : ∀ {H ok cs x}, R H ok cs x → cs.length = s
  one : ∀ {H ok cs x}, R H ok cs x → cs.all AV.one = true
  keep : ∀ {H H' : Heap} {ok : Nat → Prop} {cs x}, R H ok cs x → H.next ≤ H'.next → (∀ b, ok b → b < H.next → H'.get b = H.get b) → R H' ok cs x
  mono : ∀ {H} {ok ok' : Nat → Prop} {cs x}, R H ok cs x → (∀ b, ok b → ok' b) → R H ok' cs x

section
variable {α β : Type} {H H' : Heap} {ok ok' fp : Nat → Prop} {cs : List AV} {x : α}
theorem Shape.upd (S : Shape α) (h : S.R H ok cs x) (u : Upd fp H H') (hd : ∀ b, ok b → ¬ fp b) : S.R H' ok cs x := S.keep h u.next fun b hb hl => u.keep b hl (hd b hb)
theorem Shape.kept (S : Shape α) (h : S.R H ok cs x) (u : Keep H H') : S.R H' ok cs x := S.upd h u fun _ _ => id

/-- Numbers of a kind. -/
def intS (k : IntKind) : Shape Int where
  s := 1
  R _ _ cs x := cs = [.int k x] ∧ (Lit.int k x).wf = true
  len h := by rw [h.1]; rfl
  one h := by rw [h.1]; rfl
  keep h _ _ := h
  mono h _ := h
def boolS : Shape Bool where
  s := 1
  R _ _ cs x := cs = [.bool x]
  len h := by rw [h]; rfl
  one h := by rw [h]; rfl
  keep h _ _ := h
  mono h _ := h
def strS : Shape (List UInt8) where
  s := 1
  R _ _ cs x := cs = [.str x] ∧ x.length ≤ maxLen
  len h := by rw [h.1]; rfl
  one h := by rw [h.1]; rfl
  keep h _ _ := h
  mono h _ := h
theorem slice_one {H : Heap} {s n : Nat} {v : AV} {c : List AV} (h : Sl H s v n c) : [v].all AV.one = true := by
  obtain ⟨a, cap, ex, rfl, _⟩ := h.form
  rfl
/-- A slice of bytes. -/
def bytesS : Shape (List UInt8) where
  s := 1
  R H ok cs x := ∃ v, cs = [v] ∧ Sl H 1 v x.length (cellsOfBytes x) ∧ (∀ b, slBlock v = some b → 0 < x.length → ok b) ∧ x.length ≤ maxLen
  len h := by obtain ⟨v, rfl, _⟩ := h; rfl
  one h := by obtain ⟨v, rfl, h, _⟩ := h; exact slice_one h
  keep h hn hg := by
    obtain ⟨v, rfl, h1, h2, h3⟩ := h
    exact ⟨v, rfl, h1.keep hn fun b hb hl h0 => hg b (h2 b hb h0) hl, h2, h3⟩
  mono h hd := by
    obtain ⟨v, rfl, h1, h2, h3⟩ := h
    exact ⟨v, rfl, h1, fun b hb h0 => hd b (h2 b hb h0), h3⟩
/-- Rows of cells, one behind the other. -/
def Rows (S : Shape α) (H : Heap) (ok : Nat → Prop) (c : List AV) (l : List α) : Prop := c.length = l.length * S.s ∧ ∀ i x, l[i]? = some x → S.R H ok ((c.drop (i * S.s)).take S.s) x

variable {S : Shape α} {c d : List AV} {l m : List α}
theorem Rows.nil : Rows S H ok [] [] := ⟨by simp, fun i x h => by simp at h⟩
theorem Rows.one (h : S.R H ok cs x) : Rows S H ok cs [x] := by
  have := S.len h
  refine ⟨by simpa using this, fun i y hy => ?_⟩
  cases i with
  | zero =>
    simp at hy; subst hy
    rw [Nat.zero_mul, List.drop_zero, List.take_of_length_le (by omega)]
    exact h
  | succ i => simp at hy
theorem idx_fit {i n s : Nat} (h : i < n) : i * s + s ≤ n * s := by
  have := Nat.mul_le_mul_right s (show i + 1 ≤ n from h)
  rw [Nat.add_mul] at this
  omega
theorem Rows.app (h : Rows S H ok c l) (g : Rows S H ok d m) : Rows S H ok (c ++ d) (l ++ m) := by
  refine ⟨by rw [List.length_append, List.length_append, h.1, g.1, Nat.add_mul], fun i y hy => ?_⟩
  by_cases hi : i < l.length
  · rw [List.getElem?_append_left hi] at hy
    have := idx_fit (s := S.s) hi
    have h1 := h.1
    rw [List.drop_append_of_le_length (by omega), List.take_append_of_le_length (by rw [List.length_drop]; omega)]
    exact h.2 i y hy
  · rw [List.getElem?_append_right (by omega)] at hy
    have e : i * S.s = c.length + (i - l.length) * S.s := by rw [h.1, ← Nat.add_mul]; congr 1; omega
    rw [e, List.drop_append, List.drop_eq_nil_of_le (by omega), List.nil_append, Nat.add_sub_cancel_left]
    exact g.2 _ y hy
theorem Rows.take (h : Rows S H ok c l) (k : Nat) : Rows S H ok (c.take (k * S.s)) (l.take k) := by
  have h1 := h.1
  refine ⟨?_, fun i y hy => ?_⟩
  · rw [List.length_take, List.length_take, h1]
    by_cases hk : k ≤ l.length
    · have := mul_le' (s := S.s) hk
      rw [Nat.min_eq_left this, Nat.min_eq_left hk]
    · have := mul_le' (s := S.s) (show l.length ≤ k by omega)
      rw [Nat.min_eq_right this, Nat.min_eq_right (by omega)]
  · rw [List.getElem?_take] at hy
    split at hy
    · rename_i hi
      have := idx_fit (s := S.s) hi
      rw [List.drop_take, List.take_take, Nat.min_eq_left (by omega)]
      exact h.2 i y hy
    · cases hy
theorem Rows.drop (h : Rows S H ok c l) (k : Nat) : Rows S H ok (c.drop (k * S.s)) (l.drop k) := by
  have h1 := h.1
  refine ⟨by rw [List.length_drop, List.length_drop, h1, Nat.sub_mul], fun i y hy => ?_⟩
  rw [List.getElem?_drop] at hy
  have := h.2 _ y hy
  rw [List.drop_drop, ← Nat.add_mul]
  exact this
theorem Rows.all1 (h : Rows S H ok c l) : c.all AV.one = true := by
  rw [List.all_eq_true]
  intro a ha
  obtain ⟨j, hj⟩ := List.mem_iff_getElem?.1 ha
  have hl : j < c.length := by
    rcases Nat.lt_or_ge j c.length with h | h
    · exact h
    · rw [List.getElem?_eq_none h] at hj; cases hj
  rw [h.1] at hl
  have hs : 0 < S.s := by rcases Nat.eq_zero_or_pos S.s with h | h; (· rw [h] at hl; omega); exact h
  have hi : j / S.s < l.length := Nat.div_lt_of_lt_mul (by rw [Nat.mul_comm]; exact hl)
  have hr := h.2 (j / S.s) l[j / S.s] (by simp [hi])
  have h1 := S.one hr
  rw [List.all_eq_true] at h1
  refine h1 a (List.mem_iff_getElem?.2 ⟨j % S.s, ?_⟩)
  have e : j / S.s * S.s + j % S.s = j := by rw [Nat.mul_comm]; exact Nat.div_add_mod j S.s
  rw [List.getElem?_take, if_pos (Nat.mod_lt _ hs), List.getElem?_drop, e]
  exact hj
theorem Rows.keep (h : Rows S H ok c l) (hn : H.next ≤ H'.next) (hg : ∀ b, ok b → b < H.next → H'.get b = H.get b) : Rows S H' ok c l := ⟨h.1, fun i x hx => S.keep (h.2 i x hx) hn hg⟩
theorem Rows.upd (h : Rows S H ok c l) (u : Upd fp H H') (hd : ∀ b, ok b → ¬ fp b) : Rows S H' ok c l := ⟨h.1, fun i x hx => S.upd (h.2 i x hx) u hd⟩
theorem Rows.kept (h : Rows S H ok c l) (u : Keep H H') : Rows S H' ok c l := ⟨h.1, fun i x hx => S.kept (h.2 i x hx) u⟩
theorem Rows.mono (h : Rows S H ok c l) (hd : ∀ b, ok b → ok' b) : Rows S H ok' c l := ⟨h.1, fun i x hx => S.mono (h.2 i x hx) hd⟩
theorem Rows.write (h : Rows S H ok c l) {i : Nat} (hi : i < l.length) (hx : S.R H ok cs x) : Rows S H ok (writeAt c (i * S.s) cs) (l.set i x) := by
  have h1 := h.1
  have hc := S.len hx
  have hf := idx_fit (s := S.s) hi
  refine ⟨by rw [length_writeAt, List.length_set, h1], fun j y hy => ?_⟩
  rw [writeAt_eq _ _ _ (by omega)]
  by_cases hj : j = i
  · subst hj
    rw [List.getElem?_set_self (by omega)] at hy
    injection hy with hy; subst hy
    rw [List.drop_append, List.drop_eq_nil_of_le (by rw [List.length_take]; omega), List.nil_append, List.length_take, Nat.min_eq_left (by omega), Nat.sub_self, List.drop_zero, List.take_append_of_le_length (by omega), List.take_of_length_le (by omega)]
    exact hx
  · rw [List.getElem?_set_ne (by omega)] at hy
    have hjl : j < l.length := by
      rcases Nat.lt_or_ge j l.length with h | h
      · exact h
      · rw [List.getElem?_eq_none h] at hy; cases hy
    have hr := h.2 j y hy
    have hfj := idx_fit (s := S.s) hjl
    by_cases hlt : j < i
    · have := idx_fit (s := S.s) hlt
      rw [List.drop_append_of_le_length (by rw [List.length_take]; omega), List.take_append_of_le_length (by rw [List.length_drop, List.length_take]; omega), List.drop_take, List.take_take, Nat.min_eq_left (by omega)]
      exact hr
    · have := idx_fit (s := S.s) (show i < j by omega)
      rw [List.drop_append, List.drop_eq_nil_of_le (by rw [List.length_take]; omega), List.nil_append, List.length_take, Nat.min_eq_left (by omega), List.drop_append, List.drop_eq_nil_of_le (by omega), List.nil_append, List.drop_drop, hc]
      have e : i * S.s + S.s + (j * S.s - i * S.s - S.s) = j * S.s := by omega
      rw [e]
      exact hr

/-- A slice of such. -/
def sliceS (S : Shape α) : Shape (List α) where
  s := 1
  R H ok cs l := ∃ v c, cs = [v] ∧ Sl H S.s v l.length c ∧ (∀ b, slBlock v = some b → 0 < l.length → ok b) ∧ l.length ≤ maxLen ∧ Rows S H ok c l
  len h := by obtain ⟨v, c, rfl, _⟩ := h; rfl
  one h := by obtain ⟨v, c, rfl, h, _⟩ := h; exact slice_one h
  keep h hn hg := by
    obtain ⟨v, c, rfl, h1, h2, h3, h4⟩ := h
    exact ⟨v, c, rfl, h1.keep hn fun b hb hl h0 => hg b (h2 b hb h0) hl, h2, h3, h4.keep hn hg⟩
  mono h hd := by
    obtain ⟨v, c, rfl, h1, h2, h3, h4⟩ := h
    exact ⟨v, c, rfl, h1, fun b hb h0 => hd b (h2 b hb h0), h3, h4.mono hd⟩
/-- Cells side by side. -/
def pairS (S : Shape α) (T : Shape β) : Shape (α × β) where
  s := S.s + T.s
  R H ok cs p := ∃ c d, cs = c ++ d ∧ S.R H ok c p.1 ∧ T.R H ok d p.2
  len h := by obtain ⟨c, d, rfl, h1, h2⟩ := h; rw [List.length_append, S.len h1, T.len h2]
  one h := by obtain ⟨c, d, rfl, h1, h2⟩ := h; rw [List.all_append, S.one h1, T.one h2]; rfl
  keep h hn hg := by obtain ⟨c, d, rfl, h1, h2⟩ := h; exact ⟨c, d, rfl, S.keep h1 hn hg, T.keep h2 hn hg⟩
  mono h hd := by obtain ⟨c, d, rfl, h1, h2⟩ := h; exact ⟨c, d, rfl, S.mono h1 hd, T.mono h2 hd⟩
/-- The same under another name. -/
def viaS (S : Shape β) (f : α → β) : Shape α where
  s := S.s
  R H ok cs x := S.R H ok cs (f x)
  len h := S.len h
  one h := S.one h
  keep h := S.keep h
  mono h := S.mono h

/-- A slice of such, by its value. -/
abbrev List0 (S : Shape α) (H : Heap) (ok : Nat → Prop) (v : AV) (l : List α) : Prop := (sliceS S).R H ok [v] l
theorem List0.mk {v : AV} (h : Sl H S.s v l.length c) (hb : ∀ b, slBlock v = some b → 0 < l.length → ok b) (hl : l.length ≤ maxLen) (hr : Rows S H ok c l) : List0 S H ok v l := ⟨v, c, rfl, h, hb, hl, hr⟩
theorem List0.nil : List0 S H ok (.slice none 0 0 none) [] := ⟨_, [], rfl, Sl.nil, by simp [slBlock], by simp, Rows.nil⟩
theorem List0.open {v : AV} (h : List0 S H ok v l) : ∃ c, Sl H S.s v l.length c ∧ (∀ b, slBlock v = some b → 0 < l.length → ok b) ∧ l.length ≤ maxLen ∧ Rows S H ok c l := by
  obtain ⟨v', c, e, h1, h2, h3, h4⟩ := h
  injection e with e _; subst e
  exact ⟨c, h1, h2, h3, h4⟩
theorem List0.form {v : AV} (h : List0 S H ok v l) : ∃ a cap ex, v = .slice a l.length cap ex ∧ l.length ≤ cap ∧ (ex = none ∨ ex = some S.s) ∧ l.length ≤ maxLen := by
  obtain ⟨c, h1, _, h3, _⟩ := h.open
  obtain ⟨a, cap, ex, e, h4, h5⟩ := h1.form
  exact ⟨a, cap, ex, e, h4, h5, h3⟩
/-- One of its elements, for a walk. -/
theorem List0.at {a : Option (Nat × Nat)} {cap : Nat} {ex : Option Nat} {i : Nat} (h : List0 S H ok (.slice a l.length cap ex) l) (hx : l[i]? = some x) :
    ∃ b o c t w m cs, a = some (b, o) ∧ ok b ∧ b < H.next ∧ H.get b = some (.cells c t w m) ∧ o + i * S.s + S.s ≤ c.length ∧ (c.drop (o + i * S.s)).take S.s = cs ∧ S.R H ok cs x := by
  obtain ⟨c0, h1, h2, h3, h4⟩ := h.open
  have hi : i < l.length := by
    rcases Nat.lt_or_ge i l.length with h | h
    · exact h
    · rw [List.getElem?_eq_none h] at hx; cases hx
  obtain ⟨b, o, c, t, w, m, rfl, g1, g2, g3, g4⟩ := h1.at (by omega)
  have hf := idx_fit (s := S.s) hi
  refine ⟨b, o, c, t, w, m, _, rfl, h2 b rfl (by omega), g1, g2, by omega, rfl, ?_⟩
  rw [sub_take g4 hf]
  exact h4.2 i x hx
theorem get_of_take {c cs : List AV} {k s j : Nat} (h : (c.drop k).take s = cs) (hj : j < s) : c[k + j]? = cs[j]? := sub_get h hj
end
end Go.Abs

/- More rules: capacities, appends of zeros, slices with room behind them that were made here. -/
namespace Go.Abs
set_option linter.unusedVariables false
section
variable {P : Program} {prims : Prims} {N : Nat} {H : Heap}
theorem cap_nil' {ts : Array TypeId} {n c : Nat} {s : Option Nat} : builtinR P .cap ts (some [.slice none n c s]) H = if firstT isSliceT P ts then some (.int .i64 0, H) else builtinX P .cap ts (some [.slice none n c s]) H := by
  by_cases h : firstT isSliceT P ts = true
  · rw [if_pos h]
    unfold firstT isSliceT at h
    rw [builtinR_eq]
    simp only [builtinSem, capSem]
    cases hs : ts[0]? with
    | none => simp [hs] at h
    | some t =>
      simp only [hs] at h ⊢
      cases hu : P.underlying t with
      | none => simp [hu] at h
      | some d => cases d <;> simp_all [Sm.run]
  · rw [if_neg h, builtinX]
theorem cap_exact' {ts : Array TypeId} {p : Nat × Nat} {n c : Nat} : builtinR P .cap ts (some [.slice (some p) n c none]) H = if firstT isSliceT P ts then some (.int .i64 c, H) else builtinX P .cap ts (some [.slice (some p) n c none]) H := by
  by_cases h : firstT isSliceT P ts = true
  · rw [if_pos h]
    unfold firstT isSliceT at h
    rw [builtinR_eq]
    simp only [builtinSem, capSem]
    cases hs : ts[0]? with
    | none => simp [hs] at h
    | some t =>
      simp only [hs] at h ⊢
      cases hu : P.underlying t with
      | none => simp [hu] at h
      | some d => cases d <;> simp_all [Sm.run]
  · rw [if_neg h, builtinX]
attribute [simp] cap_nil' cap_exact'

theorem opR_appendN {xs : Array Operand} {ts : Array TypeId} {e : Nat → AV} {k : IntKind} {l : Int} {u bytes s t0 : Nat} {z : List AV}
    (ha : mapOpt (ev P (tab N e)) xs.toList = some [.slice none 0 0 none, .int k l]) (h0 : ts[0]? = some t0) (hF : elemF P t0 = some (u, bytes, s, z)) (hc : isCount P ts[1]? = true) (hl : 0 < l) (hb : l * bytes ≤ 2 ^ 46) (hn : l ≤ 2 ^ 46) :
    opR P N e (.call { callee := .builtin .append, args := xs, argTypes := ts }) H = some (.slice (some (H.next, 0)) l.toNat l.toNat (some s), H.push (.cells (zeros z l.toNat) u true false)) := by
  unfold elemF at hF
  split at hF
  · rename_i u' hu
    split at hF
    · rename_i b' s' z' g1 g2 g3
      split at hF
      · rename_i hz
        injection hF with hF
        simp only [Prod.mk.injEq] at hF
        obtain ⟨rfl, rfl, rfl, rfl⟩ := hF
        rw [opR_builtin, ha, builtinR_eq]
        have hb1 : (l.toNat : Int) * b' ≤ 2 ^ 46 := by rw [Int.toNat_of_nonneg (by omega)]; exact hb
        have hb2 : (0 + l.toNat) * b' ≤ 2 ^ 46 := by
          have : ((l.toNat * b' : Nat) : Int) ≤ 2 ^ 46 := by rw [Int.natCast_mul]; exact hb1
          rw [Nat.zero_add]; omega
        simp only [builtinSem, appendSem, h0, hu, g1, g2, g3, hz, ne_eq, not_true, if_false, hc, if_true, Sm.run]
        rw [if_pos ⟨by omega, by omega, by omega⟩]
        simp only [Sm.run, appendA]
        rw [if_neg (by omega), if_pos (by simp only [growFits, Bool.and_eq_true, Bool.or_eq_true, decide_eq_true_eq]; exact ⟨by omega, .inl ⟨by omega, by omega⟩⟩)]
        simp [srcCells]
      · cases hF
    · cases hF
  · cases hF
end

/-- A slice with room behind it, made since. -/
structure FreshG (H0 H : Heap) (elem : TypeId) (s : Nat) (v : AV) (n : Nat) (cs : List AV) : Prop where
  own : OwnG H elem s v n cs
  keep : Keep H0 H
  new : ∀ b, slBlock v = some b → H0.next ≤ b
section
variable {H0 H H' : Heap} {elem s n m : Nat} {v v' : AV} {cs ds : List AV}
theorem FreshG.of (f : Fresh H0 H elem s v n cs) : FreshG H0 H elem s v n cs := ⟨.of f.own, f.keep, f.new⟩
theorem FreshG.nil (k : Keep H0 H) : FreshG H0 H elem s (.slice none 0 0 none) 0 [] := ⟨OwnG.nil, k, by simp [slBlock]⟩
theorem FreshG.then (f : FreshG H0 H elem s v n cs) (k : Keep H H') : FreshG H0 H' elem s v n cs := ⟨f.own.kept k, f.keep.then k, f.new⟩
theorem FreshG.after {H00 : Heap} (k : Keep H00 H0) (f : FreshG H0 H elem s v n cs) : FreshG H00 H elem s v n cs := ⟨f.own, k.then f.keep, fun b hb => by have := f.new b hb; have := k.next; omega⟩
theorem FreshG.app (f : FreshG H0 H elem s v n cs) (o : OwnG H' elem s v' m ds) (b : ButOne (slBlock v) H H') (hs : slBlock v' = slBlock v ∨ slBlock v' = some H.next) : FreshG H0 H' elem s v' m ds :=
  ⟨o, f.keep.butOne b fun x hx hl => by have := f.new x hx; omega, fun x hx => by
    rcases hs with h | h
    · exact f.new x (h ▸ hx)
    · rw [h] at hx; injection hx with hx; subst hx; exact f.keep.next⟩
theorem FreshG.made (k : Keep H0 H) {b : Nat} (hl : cs.length = n * s) (hb : H0.next ≤ b) (hn : b < H.next) (hg : H.get b = some (.cells cs elem true false)) : FreshG H0 H elem s (.slice (some (b, 0)) n n none) n cs :=
  .of (Fresh.made k hl hb hn hg)
end
end Go.Abs

/- The walks, told once: each is a rule whose way is found where it is used. -/
namespace Go.Abs
set_option linter.unusedVariables false

/-- Facts, side by side. -/
theorem both {A B : Prop} (a : A) (b : B) : A ∧ B := ⟨a, b⟩
theorem none0 : (0 : Nat) = 0 := rfl

section
variable {P : Program} {prims : Prims} {N : Nat}
theorem Wq.label {l : Nat} {e : Nat → AV} {H : Heap} {Q : Post} (h : Q .normal e H) : Wq P prims N (.label l) e H Q := by
  unfold Wq Wp
  exact fun _ _ => ⟨0, .normal, e, H, rfl, h⟩
theorem wanted_undef {ops : Array Oper} {o : Oper} {e : Nat → AV} {j : Nat} {want : Bool} {d' : Tmp} (ho : o.guard = some (j, want)) (hj : yDst ops j = some d') (hN : d' < N) (hb : e d' = .undef) :
    wantedA ops (tab N e) o = false := by
  unfold yDst at hj
  unfold wantedA yieldedA
  cases hq : ops[j]? with
  | none => rw [hq] at hj; cases hj
  | some q =>
    rw [hq] at hj
    simp only [] at hj
    have ht : (tab N e)[d']? = some .undef := by rw [← hb]; simp [tab_at, hN]
    simp only [ho, hq, hj, ht]
    rfl
variable {ops : Array Oper} {d : Tmp} {op : Op} {t : TypeId} {pos : String} {after : Array Edge} {os : List Oper} {e : Nat → AV} {H : Heap} {K : (Nat → AV) → Heap → Prop}
/-- A guard that was itself passed over. -/
theorem Oq.gskipU {j : Nat} {want : Bool} {d' : Tmp} (hj : yDst ops j = some d') (hN : d' < N) (hb : e d' = .undef)
    (h : Oq P prims N ops os (setE e d .undef) H K) : Oq P prims N ops ({ dst := some d, op := op, type := t, pos := pos, after := after, guard := some (j, want) } :: os) e H K :=
  by
  unfold Oq at h ⊢
  exact fun hp hw => Ops.unwanted (wanted_undef rfl hj hN hb) (h hp hw)
end

theorem walk {F G G2 : Prop} (K : F) (g : G2) (way : F → G2 → G := by
    intro K g
    repeat (first
      | refine Oq.nil ?_ | refine Thenq.normal ?_ | refine Thenq.ret ?_ | refine Thenq.exit ?_ | refine Left.ret ?_ | refine Left.normal ?_ | refine Left.here ?_ | refine Left.beyond (by decide) ?_ | refine Roundq.ret ?_ | refine Roundq.exit ?_
      | refine Wq.seq ?_ | refine Wq.region ?_ | refine Wq.block ?_ | refine Wq.scope ?_ | refine Wq.ret ?_ | refine Wq.skip ?_ | refine Wq.exit ?_
      | refine Oq.o1 (by simp (disch := omega) [K, -getElem?_pos, wrapI64, tdivN, tmodN, ipos, ineg, dpos, dneg, slc_l, slc_h, slc_lh, slc_hm, slc_lhm, slc_0, slcR_some, slcR_none, cutS_ok, cutA_ok, byteAt_ok]; first | done | (repeat' (first | rfl | apply And.intro))) ?_ | refine Oq.o0 (by simp (disch := omega) [K, -getElem?_pos, wrapI64, tdivN, tmodN, ipos, ineg, dpos, dneg, slc_l, slc_h, slc_lh, slc_hm, slc_lhm, slc_0, slcR_some, slcR_none, cutS_ok, cutA_ok, byteAt_ok]; first | done | (repeat' (first | rfl | apply And.intro))) ?_
      | refine Wq.label ?_ | refine Oq.gskipU rfl (by decide) (by simp (disch := omega) [K, -getElem?_pos, wrapI64, tdivN, tmodN, ipos, ineg, dpos, dneg, slc_l, slc_h, slc_lh, slc_hm, slc_lhm, slc_0, slcR_some, slcR_none, cutS_ok, cutA_ok, byteAt_ok]; first | done | fail) ?_ | refine Oq.gskip rfl (by decide) (by simp (disch := omega) [K, -getElem?_pos, wrapI64, tdivN, tmodN, ipos, ineg, dpos, dneg, slc_l, slc_h, slc_lh, slc_hm, slc_lhm, slc_0, slcR_some, slcR_none, cutS_ok, cutA_ok, byteAt_ok]; first | done | fail) ?_ | refine Oq.gop rfl (by decide) (by simp (disch := omega) [K, -getElem?_pos, wrapI64, tdivN, tmodN, ipos, ineg, dpos, dneg, slc_l, slc_h, slc_lh, slc_hm, slc_lhm, slc_0, slcR_some, slcR_none, cutS_ok, cutA_ok, byteAt_ok]; first | done | fail) (by simp (disch := omega) [K, -getElem?_pos, wrapI64, tdivN, tmodN, ipos, ineg, dpos, dneg, slc_l, slc_h, slc_lh, slc_hm, slc_lhm, slc_0, slcR_some, slcR_none, cutS_ok, cutA_ok, byteAt_ok]; first | done | (repeat' (first | rfl | apply And.intro))) ?_ | refine Oq.gskip0 rfl (by decide) (by simp (disch := omega) [K, -getElem?_pos, wrapI64, tdivN, tmodN, ipos, ineg, dpos, dneg, slc_l, slc_h, slc_lh, slc_hm, slc_lhm, slc_0, slcR_some, slcR_none, cutS_ok, cutA_ok, byteAt_ok]; first | done | fail) ?_ | refine Oq.gop0 rfl (by decide) (by simp (disch := omega) [K, -getElem?_pos, wrapI64, tdivN, tmodN, ipos, ineg, dpos, dneg, slc_l, slc_h, slc_lh, slc_hm, slc_lhm, slc_0, slcR_some, slcR_none, cutS_ok, cutA_ok, byteAt_ok]; first | done | fail) (by simp (disch := omega) [K, -getElem?_pos, wrapI64, tdivN, tmodN, ipos, ineg, dpos, dneg, slc_l, slc_h, slc_lh, slc_hm, slc_lhm, slc_0, slcR_some, slcR_none, cutS_ok, cutA_ok, byteAt_ok]; first | done | (repeat' (first | rfl | apply And.intro))) ?_
      | refine Oq.call (by first | rfl | (simp (disch := omega) [K, -getElem?_pos, wrapI64, tdivN, tmodN, ipos, ineg, dpos, dneg, slc_l, slc_h, slc_lh, slc_hm, slc_lhm, slc_0, slcR_some, slcR_none, cutS_ok, cutA_ok, byteAt_ok]; first | done | exact ⟨rfl, rfl, rfl⟩ | rfl)) (by simp (disch := omega) [K, -getElem?_pos, wrapI64, tdivN, tmodN, ipos, ineg, dpos, dneg, slc_l, slc_h, slc_lh, slc_hm, slc_lhm, slc_0, slcR_some, slcR_none, cutS_ok, cutA_ok, byteAt_ok]; first | done | rfl) (by simp only [List.nil_append, List.append_nil, List.cons_append]; first | done | rfl) ?_ | refine Oq.call0 (by first | rfl | (simp (disch := omega) [K, -getElem?_pos, wrapI64, tdivN, tmodN, ipos, ineg, dpos, dneg, slc_l, slc_h, slc_lh, slc_hm, slc_lhm, slc_0, slcR_some, slcR_none, cutS_ok, cutA_ok, byteAt_ok]; first | done | exact ⟨rfl, rfl, rfl⟩ | rfl)) (by simp (disch := omega) [K, -getElem?_pos, wrapI64, tdivN, tmodN, ipos, ineg, dpos, dneg, slc_l, slc_h, slc_lh, slc_hm, slc_lhm, slc_0, slcR_some, slcR_none, cutS_ok, cutA_ok, byteAt_ok]; first | done | rfl) (by simp only [List.nil_append, List.append_nil, List.cons_append]; first | done | rfl) ?_ | refine Oq.gcall rfl (by decide) (by simp (disch := omega) [K, -getElem?_pos, wrapI64, tdivN, tmodN, ipos, ineg, dpos, dneg, slc_l, slc_h, slc_lh, slc_hm, slc_lhm, slc_0, slcR_some, slcR_none, cutS_ok, cutA_ok, byteAt_ok]; first | done | fail) (by first | rfl | (simp (disch := omega) [K, -getElem?_pos, wrapI64, tdivN, tmodN, ipos, ineg, dpos, dneg, slc_l, slc_h, slc_lh, slc_hm, slc_lhm, slc_0, slcR_some, slcR_none, cutS_ok, cutA_ok, byteAt_ok]; first | done | exact ⟨rfl, rfl, rfl⟩ | rfl)) (by simp (disch := omega) [K, -getElem?_pos, wrapI64, tdivN, tmodN, ipos, ineg, dpos, dneg, slc_l, slc_h, slc_lh, slc_hm, slc_lhm, slc_0, slcR_some, slcR_none, cutS_ok, cutA_ok, byteAt_ok]; first | done | rfl) (by simp only [List.nil_append, List.append_nil, List.cons_append]; first | done | rfl) ?_
      | refine Wq.condT (by simp (disch := omega) [K, -getElem?_pos, wrapI64, tdivN, tmodN, ipos, ineg, dpos, dneg, slc_l, slc_h, slc_lh, slc_hm, slc_lhm, slc_0, slcR_some, slcR_none, cutS_ok, cutA_ok, byteAt_ok]; first | done | fail) ?_ | refine Wq.condF (by simp (disch := omega) [K, -getElem?_pos, wrapI64, tdivN, tmodN, ipos, ineg, dpos, dneg, slc_l, slc_h, slc_lh, slc_hm, slc_lhm, slc_0, slcR_some, slcR_none, cutS_ok, cutA_ok, byteAt_ok]; first | done | fail) ?_
      | refine Ret.ret (by simp (disch := omega) [K, -getElem?_pos, wrapI64, tdivN, tmodN, ipos, ineg, dpos, dneg, slc_l, slc_h, slc_lh, slc_hm, slc_lhm, slc_0, slcR_some, slcR_none, cutS_ok, cutA_ok, byteAt_ok]; first | done | (repeat' (first | rfl | apply And.intro))) (by simp only [tupled]; first | done | rfl) ?_ | refine Ret.normal (by simp (disch := omega) [K, -getElem?_pos, wrapI64, tdivN, tmodN, ipos, ineg, dpos, dneg, slc_l, slc_h, slc_lh, slc_hm, slc_lhm, slc_0, slcR_some, slcR_none, cutS_ok, cutA_ok, byteAt_ok]; first | done | (repeat' (first | rfl | apply And.intro))) (by simp only [tupled]; first | done | rfl) ?_)
    exact g) : G := way K g

theorem walkr {F G G2 : Prop} (K : F) (g : G2) (way : F → G2 → G := by
    intro K g
    repeat (first
      | refine Oq.nil ?_ | refine Thenq.normal ?_ | refine Thenq.ret ?_ | refine Thenq.exit ?_ | refine Left.ret ?_ | refine Left.normal ?_ | refine Left.here ?_ | refine Left.beyond (by decide) ?_ | refine Roundq.ret ?_ | refine Roundq.exit ?_
      | refine Wq.region ?_ | refine Wq.block ?_ | refine Wq.scope ?_ | refine Wq.ret ?_ | refine Wq.skip ?_ | refine Wq.exit ?_
      | refine Oq.o1 (by simp (disch := omega) [K, -getElem?_pos, wrapI64, tdivN, tmodN, ipos, ineg, dpos, dneg, slc_l, slc_h, slc_lh, slc_hm, slc_lhm, slc_0, slcR_some, slcR_none, cutS_ok, cutA_ok, byteAt_ok]; first | done | (repeat' (first | rfl | apply And.intro))) ?_ | refine Oq.o0 (by simp (disch := omega) [K, -getElem?_pos, wrapI64, tdivN, tmodN, ipos, ineg, dpos, dneg, slc_l, slc_h, slc_lh, slc_hm, slc_lhm, slc_0, slcR_some, slcR_none, cutS_ok, cutA_ok, byteAt_ok]; first | done | (repeat' (first | rfl | apply And.intro))) ?_
      | refine Wq.label ?_ | refine Oq.gskipU rfl (by decide) (by simp (disch := omega) [K, -getElem?_pos, wrapI64, tdivN, tmodN, ipos, ineg, dpos, dneg, slc_l, slc_h, slc_lh, slc_hm, slc_lhm, slc_0, slcR_some, slcR_none, cutS_ok, cutA_ok, byteAt_ok]; first | done | fail) ?_ | refine Oq.gskip rfl (by decide) (by simp (disch := omega) [K, -getElem?_pos, wrapI64, tdivN, tmodN, ipos, ineg, dpos, dneg, slc_l, slc_h, slc_lh, slc_hm, slc_lhm, slc_0, slcR_some, slcR_none, cutS_ok, cutA_ok, byteAt_ok]; first | done | fail) ?_ | refine Oq.gop rfl (by decide) (by simp (disch := omega) [K, -getElem?_pos, wrapI64, tdivN, tmodN, ipos, ineg, dpos, dneg, slc_l, slc_h, slc_lh, slc_hm, slc_lhm, slc_0, slcR_some, slcR_none, cutS_ok, cutA_ok, byteAt_ok]; first | done | fail) (by simp (disch := omega) [K, -getElem?_pos, wrapI64, tdivN, tmodN, ipos, ineg, dpos, dneg, slc_l, slc_h, slc_lh, slc_hm, slc_lhm, slc_0, slcR_some, slcR_none, cutS_ok, cutA_ok, byteAt_ok]; first | done | (repeat' (first | rfl | apply And.intro))) ?_ | refine Oq.gskip0 rfl (by decide) (by simp (disch := omega) [K, -getElem?_pos, wrapI64, tdivN, tmodN, ipos, ineg, dpos, dneg, slc_l, slc_h, slc_lh, slc_hm, slc_lhm, slc_0, slcR_some, slcR_none, cutS_ok, cutA_ok, byteAt_ok]; first | done | fail) ?_ | refine Oq.gop0 rfl (by decide) (by simp (disch := omega) [K, -getElem?_pos, wrapI64, tdivN, tmodN, ipos, ineg, dpos, dneg, slc_l, slc_h, slc_lh, slc_hm, slc_lhm, slc_0, slcR_some, slcR_none, cutS_ok, cutA_ok, byteAt_ok]; first | done | fail) (by simp (disch := omega) [K, -getElem?_pos, wrapI64, tdivN, tmodN, ipos, ineg, dpos, dneg, slc_l, slc_h, slc_lh, slc_hm, slc_lhm, slc_0, slcR_some, slcR_none, cutS_ok, cutA_ok, byteAt_ok]; first | done | (repeat' (first | rfl | apply And.intro))) ?_
      | refine Oq.call (by first | rfl | (simp (disch := omega) [K, -getElem?_pos, wrapI64, tdivN, tmodN, ipos, ineg, dpos, dneg, slc_l, slc_h, slc_lh, slc_hm, slc_lhm, slc_0, slcR_some, slcR_none, cutS_ok, cutA_ok, byteAt_ok]; first | done | exact ⟨rfl, rfl, rfl⟩ | rfl)) (by simp (disch := omega) [K, -getElem?_pos, wrapI64, tdivN, tmodN, ipos, ineg, dpos, dneg, slc_l, slc_h, slc_lh, slc_hm, slc_lhm, slc_0, slcR_some, slcR_none, cutS_ok, cutA_ok, byteAt_ok]; first | done | rfl) (by simp only [List.nil_append, List.append_nil, List.cons_append]; first | done | rfl) ?_ | refine Oq.call0 (by first | rfl | (simp (disch := omega) [K, -getElem?_pos, wrapI64, tdivN, tmodN, ipos, ineg, dpos, dneg, slc_l, slc_h, slc_lh, slc_hm, slc_lhm, slc_0, slcR_some, slcR_none, cutS_ok, cutA_ok, byteAt_ok]; first | done | exact ⟨rfl, rfl, rfl⟩ | rfl)) (by simp (disch := omega) [K, -getElem?_pos, wrapI64, tdivN, tmodN, ipos, ineg, dpos, dneg, slc_l, slc_h, slc_lh, slc_hm, slc_lhm, slc_0, slcR_some, slcR_none, cutS_ok, cutA_ok, byteAt_ok]; first | done | rfl) (by simp only [List.nil_append, List.append_nil, List.cons_append]; first | done | rfl) ?_ | refine Oq.gcall rfl (by decide) (by simp (disch := omega) [K, -getElem?_pos, wrapI64, tdivN, tmodN, ipos, ineg, dpos, dneg, slc_l, slc_h, slc_lh, slc_hm, slc_lhm, slc_0, slcR_some, slcR_none, cutS_ok, cutA_ok, byteAt_ok]; first | done | fail) (by first | rfl | (simp (disch := omega) [K, -getElem?_pos, wrapI64, tdivN, tmodN, ipos, ineg, dpos, dneg, slc_l, slc_h, slc_lh, slc_hm, slc_lhm, slc_0, slcR_some, slcR_none, cutS_ok, cutA_ok, byteAt_ok]; first | done | exact ⟨rfl, rfl, rfl⟩ | rfl)) (by simp (disch := omega) [K, -getElem?_pos, wrapI64, tdivN, tmodN, ipos, ineg, dpos, dneg, slc_l, slc_h, slc_lh, slc_hm, slc_lhm, slc_0, slcR_some, slcR_none, cutS_ok, cutA_ok, byteAt_ok]; first | done | rfl) (by simp only [List.nil_append, List.append_nil, List.cons_append]; first | done | rfl) ?_
      | refine Wq.condT (by simp (disch := omega) [K, -getElem?_pos, wrapI64, tdivN, tmodN, ipos, ineg, dpos, dneg, slc_l, slc_h, slc_lh, slc_hm, slc_lhm, slc_0, slcR_some, slcR_none, cutS_ok, cutA_ok, byteAt_ok]; first | done | fail) ?_ | refine Wq.condF (by simp (disch := omega) [K, -getElem?_pos, wrapI64, tdivN, tmodN, ipos, ineg, dpos, dneg, slc_l, slc_h, slc_lh, slc_hm, slc_lhm, slc_0, slcR_some, slcR_none, cutS_ok, cutA_ok, byteAt_ok]; first | done | fail) ?_
      | refine Ret.ret (by simp (disch := omega) [K, -getElem?_pos, wrapI64, tdivN, tmodN, ipos, ineg, dpos, dneg, slc_l, slc_h, slc_lh, slc_hm, slc_lhm, slc_0, slcR_some, slcR_none, cutS_ok, cutA_ok, byteAt_ok]; first | done | (repeat' (first | rfl | apply And.intro))) (by simp only [tupled]; first | done | rfl) ?_ | refine Ret.normal (by simp (disch := omega) [K, -getElem?_pos, wrapI64, tdivN, tmodN, ipos, ineg, dpos, dneg, slc_l, slc_h, slc_lh, slc_hm, slc_lhm, slc_0, slcR_some, slcR_none, cutS_ok, cutA_ok, byteAt_ok]; first | done | (repeat' (first | rfl | apply And.intro))) (by simp only [tupled]; first | done | rfl) ?_)
    exact g) : G := way K g

theorem mwalk {F G G2 : Prop} (K : F) (g : G2) (way : F → G2 → G := by
    intro K g
    repeat (first
      | refine Dq.nil ?_ | refine Dq.o1 rfl rfl met_none (by simp (disch := omega) [K, -getElem?_pos, wrapI64, tdivN, tmodN, ipos, ineg, dpos, dneg, slc_l, slc_h, slc_lh, slc_hm, slc_lhm, slc_0, slcR_some, slcR_none, cutS_ok, cutA_ok, byteAt_ok]; first | done | (repeat' (first | rfl | apply And.intro))) ?_
      | refine Dq.load rfl met_none (by simp (disch := omega) [K, -getElem?_pos, wrapI64, tdivN, tmodN, ipos, ineg, dpos, dneg, slc_l, slc_h, slc_lh, slc_hm, slc_lhm, slc_0, slcR_some, slcR_none, cutS_ok, cutA_ok, byteAt_ok]; first | done | (repeat' (first | rfl | apply And.intro))) (by refine ⟨_, (by simp (disch := omega) [K, -getElem?_pos, wrapI64, tdivN, tmodN, ipos, ineg, dpos, dneg, slc_l, slc_h, slc_lh, slc_hm, slc_lhm, slc_0, slcR_some, slcR_none, cutS_ok, cutA_ok, byteAt_ok]; first | done | rfl), (by simp (disch := omega) [K, -getElem?_pos, wrapI64, tdivN, tmodN, ipos, ineg, dpos, dneg, slc_l, slc_h, slc_lh, slc_hm, slc_lhm, slc_0, slcR_some, slcR_none, cutS_ok, cutA_ok, byteAt_ok]; first | done | fail)⟩) (by simp (disch := omega) [K, -getElem?_pos, wrapI64, tdivN, tmodN, ipos, ineg, dpos, dneg, slc_l, slc_h, slc_lh, slc_hm, slc_lhm, slc_0, slcR_some, slcR_none, cutS_ok, cutA_ok, byteAt_ok]; first | done | (repeat' (first | rfl | apply And.intro))) ?_
      | refine Dq.h1 rfl rfl met_none (by simp (disch := omega) [K, -getElem?_pos, wrapI64, tdivN, tmodN, ipos, ineg, dpos, dneg, slc_l, slc_h, slc_lh, slc_hm, slc_lhm, slc_0, slcR_some, slcR_none, cutS_ok, cutA_ok, byteAt_ok]; first | done | (repeat' (first | rfl | apply And.intro))) ?_ | refine Dq.h0 rfl rfl met_none (by simp (disch := omega) [K, -getElem?_pos, wrapI64, tdivN, tmodN, ipos, ineg, dpos, dneg, slc_l, slc_h, slc_lh, slc_hm, slc_lhm, slc_0, slcR_some, slcR_none, cutS_ok, cutA_ok, byteAt_ok]; first | done | (repeat' (first | rfl | apply And.intro))) ?_
      | refine Dq.call rfl met_none (by first | rfl | (simp (disch := omega) [K, -getElem?_pos, wrapI64, tdivN, tmodN, ipos, ineg, dpos, dneg, slc_l, slc_h, slc_lh, slc_hm, slc_lhm, slc_0, slcR_some, slcR_none, cutS_ok, cutA_ok, byteAt_ok]; first | done | exact ⟨rfl, rfl, rfl⟩ | rfl)) (by simp (disch := omega) [K, -getElem?_pos, wrapI64, tdivN, tmodN, ipos, ineg, dpos, dneg, slc_l, slc_h, slc_lh, slc_hm, slc_lhm, slc_0, slcR_some, slcR_none, cutS_ok, cutA_ok, byteAt_ok]; first | done | rfl) (by simp only [List.nil_append, List.append_nil, List.cons_append]; first | done | rfl) ?_
      | refine Dq.o1 rfl rfl (met_some rfl (by decide) (by simp (disch := omega) [K, -getElem?_pos, wrapI64, tdivN, tmodN, ipos, ineg, dpos, dneg, slc_l, slc_h, slc_lh, slc_hm, slc_lhm, slc_0, slcR_some, slcR_none, cutS_ok, cutA_ok, byteAt_ok]; first | done | fail)) (by simp (disch := omega) [K, -getElem?_pos, wrapI64, tdivN, tmodN, ipos, ineg, dpos, dneg, slc_l, slc_h, slc_lh, slc_hm, slc_lhm, slc_0, slcR_some, slcR_none, cutS_ok, cutA_ok, byteAt_ok]; first | done | (repeat' (first | rfl | apply And.intro))) ?_
      | refine Dq.load rfl (met_some rfl (by decide) (by simp (disch := omega) [K, -getElem?_pos, wrapI64, tdivN, tmodN, ipos, ineg, dpos, dneg, slc_l, slc_h, slc_lh, slc_hm, slc_lhm, slc_0, slcR_some, slcR_none, cutS_ok, cutA_ok, byteAt_ok]; first | done | fail)) (by simp (disch := omega) [K, -getElem?_pos, wrapI64, tdivN, tmodN, ipos, ineg, dpos, dneg, slc_l, slc_h, slc_lh, slc_hm, slc_lhm, slc_0, slcR_some, slcR_none, cutS_ok, cutA_ok, byteAt_ok]; first | done | (repeat' (first | rfl | apply And.intro))) (by refine ⟨_, (by simp (disch := omega) [K, -getElem?_pos, wrapI64, tdivN, tmodN, ipos, ineg, dpos, dneg, slc_l, slc_h, slc_lh, slc_hm, slc_lhm, slc_0, slcR_some, slcR_none, cutS_ok, cutA_ok, byteAt_ok]; first | done | rfl), (by simp (disch := omega) [K, -getElem?_pos, wrapI64, tdivN, tmodN, ipos, ineg, dpos, dneg, slc_l, slc_h, slc_lh, slc_hm, slc_lhm, slc_0, slcR_some, slcR_none, cutS_ok, cutA_ok, byteAt_ok]; first | done | fail)⟩) (by simp (disch := omega) [K, -getElem?_pos, wrapI64, tdivN, tmodN, ipos, ineg, dpos, dneg, slc_l, slc_h, slc_lh, slc_hm, slc_lhm, slc_0, slcR_some, slcR_none, cutS_ok, cutA_ok, byteAt_ok]; first | done | (repeat' (first | rfl | apply And.intro))) ?_
      | refine Dq.h1 rfl rfl (met_some rfl (by decide) (by simp (disch := omega) [K, -getElem?_pos, wrapI64, tdivN, tmodN, ipos, ineg, dpos, dneg, slc_l, slc_h, slc_lh, slc_hm, slc_lhm, slc_0, slcR_some, slcR_none, cutS_ok, cutA_ok, byteAt_ok]; first | done | fail)) (by simp (disch := omega) [K, -getElem?_pos, wrapI64, tdivN, tmodN, ipos, ineg, dpos, dneg, slc_l, slc_h, slc_lh, slc_hm, slc_lhm, slc_0, slcR_some, slcR_none, cutS_ok, cutA_ok, byteAt_ok]; first | done | (repeat' (first | rfl | apply And.intro))) ?_ | refine Dq.h0 rfl rfl (met_some rfl (by decide) (by simp (disch := omega) [K, -getElem?_pos, wrapI64, tdivN, tmodN, ipos, ineg, dpos, dneg, slc_l, slc_h, slc_lh, slc_hm, slc_lhm, slc_0, slcR_some, slcR_none, cutS_ok, cutA_ok, byteAt_ok]; first | done | fail)) (by simp (disch := omega) [K, -getElem?_pos, wrapI64, tdivN, tmodN, ipos, ineg, dpos, dneg, slc_l, slc_h, slc_lh, slc_hm, slc_lhm, slc_0, slcR_some, slcR_none, cutS_ok, cutA_ok, byteAt_ok]; first | done | (repeat' (first | rfl | apply And.intro))) ?_
      | refine Dq.call rfl (met_some rfl (by decide) (by simp (disch := omega) [K, -getElem?_pos, wrapI64, tdivN, tmodN, ipos, ineg, dpos, dneg, slc_l, slc_h, slc_lh, slc_hm, slc_lhm, slc_0, slcR_some, slcR_none, cutS_ok, cutA_ok, byteAt_ok]; first | done | fail)) (by first | rfl | (simp (disch := omega) [K, -getElem?_pos, wrapI64, tdivN, tmodN, ipos, ineg, dpos, dneg, slc_l, slc_h, slc_lh, slc_hm, slc_lhm, slc_0, slcR_some, slcR_none, cutS_ok, cutA_ok, byteAt_ok]; first | done | exact ⟨rfl, rfl, rfl⟩ | rfl)) (by simp (disch := omega) [K, -getElem?_pos, wrapI64, tdivN, tmodN, ipos, ineg, dpos, dneg, slc_l, slc_h, slc_lh, slc_hm, slc_lhm, slc_0, slcR_some, slcR_none, cutS_ok, cutA_ok, byteAt_ok]; first | done | rfl) (by simp only [List.nil_append, List.append_nil, List.cons_append]; first | done | rfl) ?_
      | refine Dq.sl rfl rfl (unmet_some rfl (by decide) (by simp (disch := omega) [K, -getElem?_pos, wrapI64, tdivN, tmodN, ipos, ineg, dpos, dneg, slc_l, slc_h, slc_lh, slc_hm, slc_lhm, slc_0, slcR_some, slcR_none, cutS_ok, cutA_ok, byteAt_ok]; first | done | fail)) ?_ | refine Dq.sh rfl rfl (unmet_some rfl (by decide) (by simp (disch := omega) [K, -getElem?_pos, wrapI64, tdivN, tmodN, ipos, ineg, dpos, dneg, slc_l, slc_h, slc_lh, slc_hm, slc_lhm, slc_0, slcR_some, slcR_none, cutS_ok, cutA_ok, byteAt_ok]; first | done | fail)) ?_ | refine Dq.sh0 rfl rfl (unmet_some rfl (by decide) (by simp (disch := omega) [K, -getElem?_pos, wrapI64, tdivN, tmodN, ipos, ineg, dpos, dneg, slc_l, slc_h, slc_lh, slc_hm, slc_lhm, slc_0, slcR_some, slcR_none, cutS_ok, cutA_ok, byteAt_ok]; first | done | fail)) ?_)
    exact g) : G := way K g
end Go.Abs

/- Parts of slices that are read, and cells set in rows. -/
namespace Go.Abs
set_option linter.unusedVariables false
section
variable {H : Heap}
theorem Sl.sub {s b o n cap ex} {cs : List AV} (h : Sl H s (.slice (some (b, o)) n cap ex) n cs) {k m cap' : Nat} {ex' : Option Nat} (hk : k + m ≤ n) (hc : m ≤ cap') (he : ex' = none ∨ ex' = some s) :
    Sl H s (.slice (some (b, o + k * s)) m cap' ex') m ((cs.drop (k * s)).take (m * s)) := by
  have hl := h.len
  unfold Sl at h ⊢
  have hks : k * s + m * s ≤ n * s := by rw [← Nat.add_mul]; exact Nat.mul_le_mul_right s hk
  refine ⟨by rw [List.length_take, List.length_drop]; omega, .inr ⟨b, o + k * s, cap', ex', rfl, hc, he, fun h0 => ?_⟩⟩
  rcases h.2 with ⟨e, rfl⟩ | ⟨b', o', cap, ex, e, h1, h2, h3⟩
  · omega
  · injection e with e1 _ _ _
    simp only [Option.some.injEq, Prod.mk.injEq] at e1
    obtain ⟨rfl, rfl⟩ := e1
    obtain ⟨g1, c, t, w, mk, g2, g3, g4⟩ := h3 (by omega)
    exact ⟨g1, c, t, w, mk, g2, by omega, sub_take g4 hks⟩
theorem bytes_take (x : List UInt8) (k : Nat) : (cellsOfBytes x).take k = cellsOfBytes (x.take k) := by simp [cellsOfBytes]
theorem bytes_drop (x : List UInt8) (k : Nat) : (cellsOfBytes x).drop k = cellsOfBytes (x.drop k) := by simp [cellsOfBytes]
theorem bytes_app (x y : List UInt8) : cellsOfBytes x ++ cellsOfBytes y = cellsOfBytes (x ++ y) := by simp [cellsOfBytes]
theorem set_sub {c cs : List AV} {o m i : Nat} {v : AV} (h : (c.drop o).take m = cs) (hi : i < m) : ((c.set (o + i) v).drop o).take m = cs.set i v := by
  subst h
  apply List.ext_getElem?
  intro j
  simp only [List.getElem?_take, List.getElem?_drop, List.getElem?_set, List.length_take, List.length_drop]
  by_cases hj : j < m
  · simp only [if_pos hj]
    by_cases e : i = j
    · subst e
      simp only [if_true]
      by_cases hl : o + i < c.length
      · rw [if_pos hl, if_pos (by omega)]
      · rw [if_neg hl, if_neg (by omega)]
    · rw [if_neg (by omega), if_neg e]
  · simp only [if_neg hj]
    rw [if_neg (by omega)]
/-- One cell of one row set. -/
theorem Rows.put {α : Type} {S : Shape α} {ok : Nat → Prop} {c : List AV} {l : List α} {i k : Nat} {v : AV} {y : α} (h : Rows S H ok c l) (hi : i < l.length) (hk : k < S.s) (hx : S.R H ok (((c.drop (i * S.s)).take S.s).set k v) y) : Rows S H ok (c.set (i * S.s + k) v) (l.set i y) := by
  have h1 := h.1
  have hf := idx_fit (s := S.s) hi
  refine ⟨by rw [List.length_set, List.length_set, h1], fun j z hz => ?_⟩
  by_cases hj : j = i
  · subst hj
    rw [List.getElem?_set_self (by omega)] at hz
    injection hz with hz; subst hz
    rw [set_sub rfl hk]
    exact hx
  · rw [List.getElem?_set_ne (by omega)] at hz
    have hjl : j < l.length := by
      rcases Nat.lt_or_ge j l.length with h | h
      · exact h
      · rw [List.getElem?_eq_none h] at hz; cases hz
    have e : ((c.set (i * S.s + k) v).drop (j * S.s)).take S.s = (c.drop (j * S.s)).take S.s := by
      apply List.ext_getElem?
      intro q
      simp only [List.getElem?_take, List.getElem?_drop, List.getElem?_set]
      by_cases hq : q < S.s
      · simp only [if_pos hq]
        rw [if_neg]
        intro e
        rcases Nat.lt_or_ge j i with h' | h'
        · have := idx_fit (s := S.s) h'; omega
        · have := idx_fit (s := S.s) (show i < j by omega); omega
      · simp only [if_neg hq]
    rw [e]
    exact h.2 j z hz
end
theorem List0.cut {α : Type} {S : Shape α} {H : Heap} {ok : Nat → Prop} {b o cap : Nat} {ex : Option Nat} {l : List α} (h : List0 S H ok (.slice (some (b, o)) l.length cap ex) l) {k : Nat} (hk : k ≤ l.length) :
    List0 S H ok (.slice (some (b, o)) k k none) (l.take k) ∧ List0 S H ok (.slice (some (b, o + k * S.s)) (l.length - k) (cap - k) ex) (l.drop k) := by
  obtain ⟨c, h1, h2, h3, h4⟩ := h.open
  obtain ⟨a, cap', ex', e, hc, he⟩ := h1.form
  injection e with e1 e2 e3 e4
  subst e1; subst e3; subst e4
  refine ⟨List0.mk (c := c.take (k * S.s)) ?_ ?_ ?_ (h4.take k), List0.mk (c := c.drop (k * S.s)) ?_ ?_ ?_ (h4.drop k)⟩
  · have := h1.sub (k := 0) (m := k) (cap' := k) (ex' := none) (by omega) (Nat.le_refl _) (.inl rfl)
    rw [List.length_take, Nat.min_eq_left hk]
    simpa using this
  · intro b' hb' h0
    rw [List.length_take] at h0
    exact h2 b' (by rw [← hb']; rfl) (by omega)
  · rw [List.length_take]; omega
  · have := h1.sub (k := k) (m := l.length - k) (cap' := cap - k) (ex' := ex) (by omega) (by omega) he
    rw [List.length_drop]
    rw [List.take_of_length_le (by rw [List.length_drop, h4.1, Nat.sub_mul]; omega)] at this
    exact this
  · intro b' hb' h0
    rw [List.length_drop] at h0
    exact h2 b' (by rw [← hb']; rfl) (by omega)
  · rw [List.length_drop]; omega
end Go.Abs

/- An append, with what is known of its block. -/
namespace Go.Abs
set_option linter.unusedVariables false

theorem appendA_lt {elem : TypeId} {size bytes sLen sCap n : Nat} {base : Option (Nat × Nat)} {sl : Option Nat} {new : List AV} {H H' : Heap} {v' : AV} (h : appendA elem size bytes base sLen sCap sl n new H = some (v', H')) :
    ∀ z, slBlock v' = some z → slBlock (.slice base sLen sCap sl) = some z ∨ z < H'.next := by
  intro z hz
  unfold appendA at h
  split at h
  · split at h
    · injection h with h; injection h with h1 h2; subst h1; simp [slBlock] at hz
    · split at h
      · injection h with h; injection h with h1 h2; subst h1; exact .inl hz
      · cases h
  · split at h
    · split at h
      · cases h
      · split at h
        · split at h
          · split at h
            · injection h with h; injection h with h1 h2; subst h1; subst h2; simp [slBlock] at hz; exact .inr (by simp; omega)
            · cases h
          · cases h
        · injection h with h; injection h with h1 h2; subst h1; subst h2; simp [slBlock] at hz; exact .inr (by simp; omega)
    · cases h

theorem appendA_zero {elem : TypeId} {size bytes sLen sCap : Nat} {base : Option (Nat × Nat)} {sl : Option Nat} {H H' : Heap} {v' : AV} {cs : List AV} (o : OwnG H elem size (.slice base sLen sCap sl) sLen cs) (h : appendA elem size bytes base sLen sCap sl 0 [] H = some (v', H')) : v' = .slice base sLen sCap sl ∧ H' = H := by
  obtain ⟨a, cap, ex, e, hc, _⟩ := o.form
  injection e with e1 _ e3 e4
  subst e1; subst e3; subst e4
  unfold appendA at h
  rw [if_pos (by omega)] at h
  cases base with
  | none =>
    simp only [Option.some.injEq, Prod.mk.injEq] at h
    obtain ⟨rfl, rfl⟩ := h
    rcases o with ⟨a, e, rfl, rfl⟩ | ⟨b, o, c0, cap, sl, e, _⟩
    · injection e with _ _ e3 e4
      subst e3; subst e4
      exact ⟨rfl, rfl⟩
    · injection e with e1; cases e1
  | some p =>
    simp only [writeCells, Option.some.injEq, Prod.mk.injEq, Nat.add_zero] at h
    obtain ⟨rfl, rfl⟩ := h
    exact ⟨rfl, rfl⟩
section
variable {P : Program} {prims : Prims} {N : Nat}
theorem Oq.appendL {ops : Array Oper} {d : Tmp} {xs : Array Operand} {ts : Array TypeId} {t : TypeId} {pos : String} {after : Array Edge} {os : List Oper} {e : Nat → AV} {H : Heap} {K : (Nat → AV) → Heap → Prop} {v x : AV} {n m u t1 bytes s : Nat} {z cs new : List AV}
    (ha : mapOpt (ev P (tab N e)) xs.toList = some [v, x]) (ht : ∃ t0, ts[0]? = some t0 ∧ elemF P t0 = some (u, bytes, s, z)) (ht1 : ts[1]? = some t1) (hu1 : (P.underlying t1).isSome = true) (hc : isCount P (some t1) = false)
    (own : OwnG H u s v n cs) (hx : srcLen x = some m ∧ srcCells H s m x = some new) (hl : new.length = m * s) (hone : new.all AV.one = true) (hb : (n + m) * bytes ≤ 2 ^ 46) (hn : n + m ≤ 2 ^ 46)
    (h : ∀ v' H', OwnG H' u s v' (n + m) (cs ++ new) → ButOne (slBlock v) H H' → (slBlock v' = slBlock v ∨ slBlock v' = some H.next) → (∀ z, slBlock v' = some z → slBlock v = some z ∨ z < H'.next) → Oq P prims N ops os (setE e d v') H' K) :
    Oq P prims N ops ({ dst := some d, op := .call { callee := .builtin .append, args := xs, argTypes := ts }, type := t, pos := pos, after := after, guard := none } :: os) e H K := by
  obtain ⟨t0, h0, hF⟩ := ht
  obtain ⟨base, cap, ex, rfl, _⟩ := own.form
  unfold elemF at hF
  split at hF
  · rename_i u' hu
    split at hF
    · rename_i b' s' z' g1 g2 g3
      split at hF
      · rename_i hz
        injection hF with hF
        simp only [Prod.mk.injEq] at hF
        obtain ⟨rfl, rfl, rfl, rfl⟩ := hF
        obtain ⟨d1, hd1⟩ := Option.isSome_iff_exists.1 hu1
        obtain ⟨v', H', r, o, bo, hbk⟩ := appendA_ownG own hl hone hb hn
        refine Oq.o1 ?_ (h v' H' o bo hbk (appendA_lt r))
        rw [opR_builtin, ha, append_eq h0 hu g2 g1 g3 hz (by rw [ht1]; exact hc) ht1 hd1 hx.1 hx.2 hl]
        exact r
      · cases hF
    · cases hF
  · cases hF
theorem Oq.appendZ {ops : Array Oper} {d : Tmp} {xs : Array Operand} {ts : Array TypeId} {t : TypeId} {pos : String} {after : Array Edge} {os : List Oper} {e : Nat → AV} {H : Heap} {K : (Nat → AV) → Heap → Prop} {v x : AV} {n m u t1 bytes s : Nat} {z cs new : List AV}
    (ha : mapOpt (ev P (tab N e)) xs.toList = some [v, x]) (ht : ∃ t0, ts[0]? = some t0 ∧ elemF P t0 = some (u, bytes, s, z)) (ht1 : ts[1]? = some t1) (hu1 : (P.underlying t1).isSome = true) (hc : isCount P (some t1) = false)
    (own : OwnG H u s v n cs) (hx : srcLen x = some m ∧ srcCells H s m x = some new) (hl : new.length = m * s) (hone : new.all AV.one = true) (hb : (n + m) * bytes ≤ 2 ^ 46) (hn : n + m ≤ 2 ^ 46)
    (h : ∀ v' H', OwnG H' u s v' (n + m) (cs ++ new) → ButOne (slBlock v) H H' → (slBlock v' = slBlock v ∨ slBlock v' = some H.next) → ((∀ z, slBlock v' = some z → slBlock v = some z ∨ z < H'.next) ∧ (m = 0 → v' = v ∧ H' = H)) → Oq P prims N ops os (setE e d v') H' K) :
    Oq P prims N ops ({ dst := some d, op := .call { callee := .builtin .append, args := xs, argTypes := ts }, type := t, pos := pos, after := after, guard := none } :: os) e H K := by
  obtain ⟨t0, h0, hF⟩ := ht
  obtain ⟨base, cap, ex, rfl, _⟩ := own.form
  unfold elemF at hF
  split at hF
  · rename_i u' hu
    split at hF
    · rename_i b' s' z' g1 g2 g3
      split at hF
      · rename_i hz
        injection hF with hF
        simp only [Prod.mk.injEq] at hF
        obtain ⟨rfl, rfl, rfl, rfl⟩ := hF
        obtain ⟨d1, hd1⟩ := Option.isSome_iff_exists.1 hu1
        obtain ⟨v', H', r, o, bo, hbk⟩ := appendA_ownG own hl hone hb hn
        refine Oq.o1 ?_ (h v' H' o bo hbk ⟨appendA_lt r, fun h0 => by
          subst h0
          have : new = [] := List.eq_nil_of_length_eq_zero (by simpa using hl)
          subst this
          exact appendA_zero own r⟩)
        rw [opR_builtin, ha, append_eq h0 hu g2 g1 g3 hz (by rw [ht1]; exact hc) ht1 hd1 hx.1 hx.2 hl]
        exact r
      · cases hF
    · cases hF
  · cases hF
/-- An append that fits: the slice stays where it is. -/
theorem Oq.appendFit {ops : Array Oper} {d : Tmp} {xs : Array Operand} {ts : Array TypeId} {t : TypeId} {pos : String} {after : Array Edge} {os : List Oper} {e : Nat → AV} {H : Heap} {K : (Nat → AV) → Heap → Prop} {x : AV} {b o n cap : Nat} {sl : Option Nat} {m u t1 bytes s : Nat} {z c new : List AV} {mk : Bool}
    (ha : mapOpt (ev P (tab N e)) xs.toList = some [.slice (some (b, o)) n cap sl, x]) (ht : ∃ t0, ts[0]? = some t0 ∧ elemF P t0 = some (u, bytes, s, z)) (ht1 : ts[1]? = some t1) (hu1 : (P.underlying t1).isSome = true) (hc : isCount P (some t1) = false)
    (hb : b < H.next) (hg : H.get b = some (.cells c u true mk)) (hfit : n + m ≤ cap) (hcap : o + cap * s ≤ c.length) (hx : srcLen x = some m ∧ srcCells H s m x = some new) (hl : new.length = m * s) (hone : new.all AV.one = true)
    (h : ∀ H', H'.get b = some (.cells (c.take (o + n * s) ++ (new ++ c.drop (o + n * s + m * s))) u true mk) → Upd (fun z => z = b) H H' → Oq P prims N ops os (setE e d (.slice (some (b, o)) (n + m) cap sl)) H' K) :
    Oq P prims N ops ({ dst := some d, op := .call { callee := .builtin .append, args := xs, argTypes := ts }, type := t, pos := pos, after := after, guard := none } :: os) e H K := by
  obtain ⟨t0, h0, hF⟩ := ht
  unfold elemF at hF
  split at hF
  · rename_i u' hu
    split at hF
    · rename_i b' s' z' g1 g2 g3
      split at hF
      · rename_i hz
        injection hF with hF
        simp only [Prod.mk.injEq] at hF
        obtain ⟨rfl, rfl, rfl, rfl⟩ := hF
        obtain ⟨d1, hd1⟩ := Option.isSome_iff_exists.1 hu1
        have q1 : (n + m) * s' ≤ cap * s' := Nat.mul_le_mul_right s' hfit
        rw [Nat.add_mul] at q1
        have key : ∃ H', appendA u' s' b' (some (b, o)) n cap sl m new H = some (.slice (some (b, o)) (n + m) cap sl, H') ∧ H'.get b = some (.cells (c.take (o + n * s') ++ (new ++ c.drop (o + n * s' + m * s'))) u' true mk) ∧ Upd (fun z => z = b) H H' := by
          unfold appendA
          rw [if_pos hfit]
          by_cases hn : new = []
          · subst hn
            have hm : m * s' = 0 := by simpa using hl.symm
            refine ⟨H, by simp [writeCells], ?_, Upd.rfl⟩
            rw [hm, Nat.add_zero, List.nil_append, List.take_append_drop, hg]
          · have hw := writeCells_eq (o := o + n * s') hg (by omega) (List.length_pos_iff.2 hn) hone
            simp only [hw]
            refine ⟨_, rfl, ?_, Upd.rfl.set _ hb fun _ => rfl⟩
            rw [Heap.get_set, if_pos rfl, hl]
        obtain ⟨H', r, hg', hu'⟩ := key
        refine Oq.o1 ?_ (h H' hg' hu')
        rw [opR_builtin, ha, append_eq h0 hu g2 g1 g3 hz (by rw [ht1]; exact hc) ht1 hd1 hx.1 hx.2 hl]
        exact r
      · cases hF
    · cases hF
  · cases hF
theorem zeros_len (z : List AV) : ∀ n, (zeros z n).length = n * z.length
  | 0 => by simp [zeros]
  | n + 1 => by simp only [zeros, List.length_append, zeros_len z n, Nat.add_mul]; omega
theorem zeros_all {z : List AV} (h : z.all AV.one = true) : ∀ n, (zeros z n).all AV.one = true
  | 0 => rfl
  | n + 1 => by simp only [zeros, List.all_append, h, zeros_all h n, Bool.and_self]
/-- A piece of a block cleared, whatever its elements. -/
theorem Oq.clearG {ops : Array Oper} {xs : Array Operand} {ts : Array TypeId} {t : TypeId} {pos : String} {after : Array Edge} {os : List Oper} {e : Nat → AV} {H : Heap} {K : (Nat → AV) → Heap → Prop} {b o k c s : Nat} {ex : Option Nat} {cd : List AV} {u u1 : TypeId} {mk : Bool} {bytes : Nat} {z : List AV}
    (ha : mapOpt (ev P (tab N e)) xs.toList = some [.slice (some (b, o)) k c ex]) (ht : ∃ t1, ts[0]? = some t1 ∧ elemF P t1 = some (u1, bytes, s, z)) (h0 : 0 < k) (hs : 0 < s)
    (hb : H.get b = some (.cells cd u true mk)) (h1 : o + k * s ≤ cd.length) (hone : z.all AV.one = true)
    (h : Oq P prims N ops os e (H.set b (.cells (cd.take o ++ (zeros z k ++ cd.drop (o + k * s))) u true mk)) K) :
    Oq P prims N ops ({ dst := none, op := .call { callee := .builtin .clear, args := xs, argTypes := ts }, type := t, pos := pos, after := after, guard := none } :: os) e H K := by
  obtain ⟨t1, ht, hF⟩ := ht
  refine Oq.o0 (v := .undef) (H' := H.set b (.cells (cd.take o ++ (zeros z k ++ cd.drop (o + k * s))) u true mk)) ?_ h
  rw [opR_builtin, ha, builtinR_eq]
  unfold elemF at hF
  split at hF
  · rename_i u' hu
    split at hF
    · rename_i b' s' z' g1 g2 g3
      split at hF
      · rename_i hz
        injection hF with hF
        simp only [Prod.mk.injEq] at hF
        obtain ⟨rfl, rfl, rfl, rfl⟩ := hF
        simp only [builtinSem, clearSem, ht, hu]
        rw [if_neg (by omega)]
        have hzl := zeros_len z'.cells k
        rw [hz] at hzl
        have hw := writeCells_eq (o := o) (vs := zeros z'.cells k) hb (by omega) (by rw [hzl]; exact Nat.mul_pos h0 hs) (zeros_all hone k)
        rw [hzl] at hw
        simp only [g2, g3, hz, ne_eq, not_true, if_false, hw, Sm.run]
      · cases hF
    · cases hF
  · cases hF
end
end Go.Abs

/- An append in a drawn region, with what is known of its block. -/
namespace Go.Abs
set_option linter.unusedVariables false
section
variable {P : Program} {prims : Prims} {N : Nat}
theorem OpR.appendL {d : Option Tmp} {xs : Array Operand} {ts : Array TypeId} {t : TypeId} {pos : String} {after : Array Edge} {g : Option (Nat × Bool)} {e : Nat → AV} {H : Heap} {v x : AV} {n m u t1 bytes s : Nat} {z cs new : List AV}
    (ha : mapOpt (ev P (tab N e)) xs.toList = some [v, x]) (ht : ∃ t0, ts[0]? = some t0 ∧ elemF P t0 = some (u, bytes, s, z)) (ht1 : ts[1]? = some t1) (hu1 : (P.underlying t1).isSome = true) (hc : isCount P (some t1) = false)
    (own : OwnG H u s v n cs) (hx : srcLen x = some m ∧ srcCells H s m x = some new) (hl : new.length = m * s) (hone : new.all AV.one = true) (hb : (n + m) * bytes ≤ 2 ^ 46) (hn : n + m ≤ 2 ^ 46) :
    ∃ v' H', opR P N e (.call { callee := .builtin .append, args := xs, argTypes := ts }) H = some (v', H') ∧ OwnG H' u s v' (n + m) (cs ++ new) ∧ ButOne (slBlock v) H H' ∧ (slBlock v' = slBlock v ∨ slBlock v' = some H.next) ∧ (∀ z, slBlock v' = some z → slBlock v = some z ∨ z < H'.next) := by
  obtain ⟨t0, h0, hF⟩ := ht
  obtain ⟨base, cap, ex, rfl, _⟩ := own.form
  unfold elemF at hF
  split at hF
  · rename_i u' hu
    split at hF
    · rename_i b' s' z' g1 g2 g3
      split at hF
      · rename_i hz
        injection hF with hF
        simp only [Prod.mk.injEq] at hF
        obtain ⟨rfl, rfl, rfl, rfl⟩ := hF
        obtain ⟨d1, hd1⟩ := Option.isSome_iff_exists.1 hu1
        obtain ⟨v', H', r, o, bo, hbk⟩ := appendA_ownG own hl hone hb hn
        refine ⟨v', H', ?_, o, bo, hbk, appendA_lt r⟩
        rw [opR_builtin, ha, append_eq h0 hu g2 g1 g3 hz (by rw [ht1]; exact hc) ht1 hd1 hx.1 hx.2 hl]
        exact r
      · cases hF
    · cases hF
  · cases hF
section
variable {ops : Array Oper} {i m n0 : Nat} {t : TypeId} {pos : String} {after : Array Edge} {g : Option (Nat × Bool)} {is : List (Nat × Nat)} {e : Nat → AV} {H : Heap} {snaps : List Heap} {K : (Nat → AV) → Heap → Prop}
theorem Dq.appendL {d : Tmp} {xs : Array Operand} {ts : Array TypeId} {w x : AV} {n q u t1 bytes s : Nat} {z cs new : List AV}
    (ho : ops[i]? = some ⟨some d, .call { callee := .builtin .append, args := xs, argTypes := ts }, t, pos, after, g⟩) (hg : Met ops e N g)
    (ha : mapOpt (ev P (tab N e)) xs.toList = some [w, x]) (ht : ∃ t0, ts[0]? = some t0 ∧ elemF P t0 = some (u, bytes, s, z)) (ht1 : ts[1]? = some t1) (hu1 : (P.underlying t1).isSome = true) (hc : isCount P (some t1) = false)
    (own : OwnG H u s w n cs) (hx : srcLen x = some q ∧ srcCells H s q x = some new) (hl : new.length = q * s) (hone : new.all AV.one = true) (hb : (n + q) * bytes ≤ 2 ^ 46) (hn : n + q ≤ 2 ^ 46)
    (h : ∀ v' H', OwnG H' u s v' (n + q) (cs ++ new) → ButOne (slBlock w) H H' → (slBlock v' = slBlock w ∨ slBlock v' = some H.next) → (∀ z, slBlock v' = some z → slBlock w = some z ∨ z < H'.next) → Dq P prims N ops n0 is (setE e d v') H' (H' :: snaps) K) :
    Dq P prims N ops n0 ((i, m) :: is) e H snaps K := by
  obtain ⟨v', H', hr, o, bo, hbk, hlt⟩ := OpR.appendL (d := some d) (t := t) (pos := pos) (after := after) (g := g) ha ht ht1 hu1 hc own hx hl hone hb hn
  exact Dq.heavyG ho rfl (Met.w (o := ⟨some d, .call { callee := .builtin .append, args := xs, argTypes := ts }, t, pos, after, g⟩) hg) fun hp hw => OpR.mk (v := v') (H' := H') (runOp_opR hr) (h v' H' o bo hbk hlt)
end
end
end Go.Abs

/- Lists of numbers in memory. -/
namespace Go.Abs
set_option maxRecDepth 100000
set_option linter.unusedVariables false
set_option linter.unusedSimpArgs false

def ints (l : List Int) : List AV := l.map (AV.int .i64)
@[simp] theorem ints_len (l : List Int) : (ints l).length = l.length := by simp [ints]
theorem ints_one (l : List Int) : (ints l).all AV.one = true := by
  rw [List.all_eq_true]; intro x hx; simp [ints] at hx; obtain ⟨y, _, rfl⟩ := hx; rfl
theorem ints_app (l m : List Int) : ints l ++ ints m = ints (l ++ m) := by simp [ints]
theorem ints_take (l : List Int) (n : Nat) : (ints l).take n = ints (l.take n) := by simp [ints]
/-- A slice that holds these numbers. -/
def Is (H : Heap) (v : AV) (l : List Int) : Prop := Sl H 1 v l.length (ints l)
theorem Is.kept {H H' : Heap} {v : AV} {l : List Int} (h : Is H v l) (u : Keep H H') : Is H' v l := Sl.kept h u
theorem int_at {H : Heap} {a : Option (Nat × Nat)} {n cap : Nat} {ex : Option Nat} {l : List Int} {i : Nat} {x : Int} (h : Is H (.slice a n cap ex) l) (hx : l[i]? = some x) :
    ∃ b o c t w m, a = some (b, o) ∧ n = l.length ∧ b < H.next ∧ H.get b = some (.cells c t w m) ∧ o + i < c.length ∧ c[o + i]? = some (.int .i64 x) := by
  have hi := (List.getElem?_eq_some_iff.1 hx).1
  obtain ⟨a', cap', ex', e, _⟩ := Sl.form h
  injection e with e1 e2 e3 e4
  subst e1; subst e2; subst e3; subst e4
  obtain ⟨b, o, c, t, w, m, rfl, h1, h2, h3, h4⟩ := Sl.at h (by omega)
  refine ⟨b, o, c, t, w, m, rfl, rfl, h1, h2, by omega, ?_⟩
  rw [sub_get h4 (by omega)]
  simp [ints, hx]
theorem Is.form {H : Heap} {v : AV} {l : List Int} (h : Is H v l) : ∃ a cap ex, v = .slice a l.length cap ex ∧ l.length ≤ cap ∧ (ex = none ∨ ex = some 1) := Sl.form h
theorem geti_lt {α : Type} {l : List α} {i : Nat} (h : i < l.length) : ∃ x, l[i]? = some x := ⟨l[i], by simp [h]⟩
theorem Is.cut {H : Heap} {b o cap : Nat} {ex : Option Nat} {l : List Int} {n : Nat} (h : Is H (.slice (some (b, o)) l.length cap ex) l) (hn : n ≤ l.length) (hc : l.length ≤ cap) (hex : ex = none ∨ ex = some 1) : Is H (.slice (some (b, o)) n cap ex) (l.take n) := by
  have := Sl.sub h (k := 0) (m := n) (cap' := cap) (ex' := ex) (by omega) (by omega) hex
  simp only [Nat.zero_mul, Nat.add_zero, List.drop_zero, Nat.mul_one] at this
  unfold Is
  rw [List.length_take, Nat.min_eq_left hn, ← ints_take]
  exact this
theorem FreshG.put {H0 H : Heap} {elem : TypeId} {s n : Nat} {v : AV} {cs : List AV} (f : FreshG H0 H elem s v n cs) {b : Nat} (o : AObj) (h0 : H0.next ≤ b) (hb : b < H.next) (hv : slBlock v ≠ some b) : FreshG H0 (H.set b o) elem s v n cs :=
  ⟨f.own.keep (by simp) fun z hz hlt => Heap.get_set_ne _ _ (fun e => hv (e ▸ hz)), f.keep.set _ hb (by omega), f.new⟩
end Go.Abs

/- Ranges over maps by numbers: a function that hands back a map's keys, rising, told to the abstract machine. -/
namespace Go.Abs
open Go.Proofs Go.WideElems
set_option linter.unusedVariables false

/-! ## sorted lists of numbers -/
def insI (x : Int) : List Int → List Int
  | [] => [x]
  | y :: r => if x ≤ y then x :: y :: r else y :: insI x r
def sortI : List Int → List Int
  | [] => []
  | x :: r => insI x (sortI r)
theorem insI_perm (x : Int) : ∀ l, (insI x l).Perm (x :: l)
  | [] => .refl _
  | y :: r => by
    unfold insI
    split
    · exact .refl _
    · exact ((insI_perm x r).cons y).trans (.swap x y r)
theorem sortI_perm : ∀ l, (sortI l).Perm l
  | [] => .refl _
  | x :: r => (insI_perm x _).trans ((sortI_perm r).cons x)
theorem insI_sorted (x : Int) : ∀ l, l.Pairwise (· ≤ ·) → (insI x l).Pairwise (· ≤ ·)
  | [], _ => by simp [insI]
  | y :: r, h => by
    obtain ⟨h1, h2⟩ := List.pairwise_cons.1 h
    unfold insI
    split
    · rename_i hx
      refine List.pairwise_cons.2 ⟨fun z hz => ?_, h⟩
      rcases List.mem_cons.1 hz with rfl | hz
      · exact hx
      · exact Int.le_trans hx (h1 z hz)
    · refine List.pairwise_cons.2 ⟨fun z hz => ?_, insI_sorted x r h2⟩
      rcases List.mem_cons.1 ((insI_perm x r).mem_iff.1 hz) with rfl | hz
      · omega
      · exact h1 z hz
theorem sortI_sorted : ∀ l, (sortI l).Pairwise (· ≤ ·)
  | [] => .nil
  | x :: r => insI_sorted x _ (sortI_sorted r)
theorem sorted_uniq {l m : List Int} (h : l.Perm m) (hl : l.Pairwise (· ≤ ·)) (hm : m.Pairwise (· ≤ ·)) : l = m :=
  List.Perm.eq_of_pairwise (le := (· ≤ ·)) (fun a b _ _ h1 h2 => Int.le_antisymm h1 h2) hl hm h
theorem sortI_id {l : List Int} (h : l.Pairwise (· ≤ ·)) : sortI l = l := sorted_uniq (sortI_perm l) (sortI_sorted l) h
theorem sortI_len (l : List Int) : (sortI l).length = l.length := (sortI_perm l).length_eq
theorem merge_sortI {l m : List Int} (h : l.Perm m) : (l.mergeSort fun x y => decide (x ≤ y)) = sortI m := by
  have tr : ∀ a b c : Int, leI a b = true → leI b c = true → leI a c = true := fun a b c h1 h2 => by simp only [leI, decide_eq_true_eq] at *; exact Int.le_trans h1 h2
  have to : ∀ a b : Int, (leI a b || leI b a) = true := fun a b => by simp only [leI, Bool.or_eq_true, decide_eq_true_eq]; exact Int.le_total a b
  refine sorted_uniq ((List.mergeSort_perm l _).trans (h.trans (sortI_perm m).symm)) ?_ (sortI_sorted m)
  exact (List.pairwise_mergeSort tr to l).imp fun {a b} h => by simpa [leI] using h

/-! ## the keys of a map -/
def keysI : List (AV × AV) → Option (List Int)
  | [] => some []
  | (.int .i64 k, _) :: r => if -9223372036854775808 ≤ k ∧ k ≤ 9223372036854775807 then match keysI r with
    | some l => some (k :: l)
    | none => none
    else none
  | _ => none
theorem keysI_rel {ρ : Map} : ∀ {es : List (AV × AV)} {ks : List Int} {ms : List MapEntry}, keysI es = some ks → KRels ρ es ms → ms.map (·.key) = ks.map (Value.int .i64) ∧ ∀ k ∈ ks, -9223372036854775808 ≤ k ∧ k ≤ 9223372036854775807
  | [], ks, ms, h, r => by
    simp [keysI] at h; subst h; cases r; simp
  | (a, v) :: es, ks, ms, h, r => by
    unfold keysI at h
    split at h
    · rename_i e; cases e
    · rename_i k x r' e
      injection e with e1 e2
      injection e1 with e3 e4
      subst e2
      subst e3
      split at h
      · rename_i hb
        cases hr : keysI es with
        | none => rw [hr] at h; cases h
        | some l =>
          rw [hr] at h
          injection h with h; subst h
          obtain ⟨e, es', rfl, hk, _, hrest⟩ := r
          obtain ⟨g1, g2⟩ := keysI_rel hr hrest
          have hk' : e.key = .int .i64 k := hk
          exact ⟨by simp [hk', g1], by
            intro z hz
            rcases List.mem_cons.1 hz with rfl | hz
            · exact hb
            · exact g2 z hz⟩
      · cases h
    · cases h
def anyElem (_ : Value) : Option (DataW Unit × List MemPlace) := some (.nil, [])
section
variable {P : Program} {kt : TypeId} (hk : P.underlying kt = some (.int .i64))
include hk
theorem rd_any {e : MapEntry} {k : Int} (he : e.key = .int .i64 k) (hb : -9223372036854775808 ≤ k ∧ k ≤ 9223372036854775807) : rd P kt anyElem e = some (.int .i64 k, .nil) := by
  have hw : (Lit.int .i64 k).wf = true := by
    simp only [Lit.wf, IntKind.min, IntKind.max, IntKind.bits, IntKind.signed]
    simp
    omega
  simp [rd, he, anyElem, Go.Maps.keyOf_int_mk hk hw]
theorem rg_map : ∀ {ms : List MapEntry} {ks : List Int}, ms.map (·.key) = ks.map (Value.int .i64) → (∀ k ∈ ks, -9223372036854775808 ≤ k ∧ k ≤ 9223372036854775807) → ms.map (rg P kt anyElem) = ks.map (fun k => (.int .i64 k, .nil)) ∧ ∀ x ∈ ms, ∃ y, rd P kt anyElem x = some y
  | [], [], _, _ => by simp
  | [], _ :: _, h, _ => by simp at h
  | _ :: _, [], h, _ => by simp at h
  | e :: ms, k :: ks, h, hb => by
    simp only [List.map_cons, List.cons.injEq] at h
    obtain ⟨g1, g2⟩ := rg_map h.2 (fun x hx => hb x (by simp [hx]))
    have hr := rd_any hk h.1 (hb k (by simp))
    refine ⟨by simp [rg, hr] ; exact g1, fun x hx => ?_⟩
    rcases List.mem_cons.1 hx with rfl | hx
    · exact ⟨_, hr⟩
    · exact g2 x hx
theorem owns_of {ρ : Map} {w : World} {B clock : Nat} {m : Array MapEntry} {es : List (AV × AV)} {ks : List Int} (hh : w.heap[B]? = some (.map m clock)) (hr : KRels ρ es m.toList) (hm : Marked m.toList clock) (he : keysI es = some ks) (hn : ks.Nodup) (hl : ks.length ≤ 100000) :
    ∃ D0 : DataW Unit, w.ownsMap P kt anyElem B 100000 D0 ∧ (Go.intKeys D0).Perm ks ∧ Maps.size D0 = ks.length := by
  obtain ⟨g1, g2⟩ := keysI_rel he hr
  obtain ⟨g3, g4⟩ := rg_map (P := P) (kt := kt) hk g1 g2
  have hsz : m.size = ks.length := by
    have := congrArg List.length g1
    simpa using this
  refine ⟨_, ⟨m, clock, hh, ⟨by unfold maxLen; omega, ?_, g4⟩, by omega, rfl⟩, ?_, ?_⟩
  · refine (Go.MapKept.stamped_iff m clock).2 ⟨hm.1, hm.2, ?_⟩
    have h1 : (m.toList.map (·.key)).Nodup := by
      rw [g1]
      exact List.pairwise_map.2 (hn.imp fun {a b} h e => h (by injection e))
    exact List.pairwise_map.1 h1
  · rw [g3]
    show (((ks.map fun k => ((.int .i64 k : Lit), (.nil : DataW Unit))).foldr DataW.insert []).map fun p => intOf p.1).Perm ks
    refine ((Go.WideShapes.sorted_perm _).map _).trans ?_
    rw [List.map_map]
    have : (ks.map ((fun p : Lit × DataW Unit => intOf p.1) ∘ fun k => ((.int .i64 k : Lit), (.nil : DataW Unit)))) = ks := by
      conv => rhs; rw [← List.map_id ks]
      rfl
    rw [this]
  · rw [g3]
    show (((ks.map fun k => ((.int .i64 k : Lit), (.nil : DataW Unit))).foldr DataW.insert [])).length = _
    rw [(Go.WideShapes.sorted_perm _).length_eq, List.length_map]
end
/-- A new block of cells, somewhere behind what was there. -/
theorem Good.pushAt {G : Nat} {ρ : Map} {H : Heap} {w w' : World} {o : AObj} {g tot : Nat} (hs : Sim G ρ H w) (hn : ρ H.next = none) (hw : w.grownBy w' none) (hg : w.heap.size ≤ g)
    (ho : ORel (upd ρ H.next ⟨g, 0, tot⟩) w' H.next o) (hown : o.own = true) :
    Good G ρ H w (upd ρ H.next ⟨g, 0, tot⟩) (H.push o) w' := by
  have hext : Ext ρ (upd ρ H.next ⟨g, 0, tot⟩) := Ext.upd _ hn
  have hkept : ∀ (B : Nat) (y : Obj), w.heap[B]? = some y → w'.heap[B]? = some y := fun B y hy => (hw.block B (heap_lt hy) (by simp)).trans hy
  have hold : ∀ b x p, H.get b = some x → x.live = true → b ≠ H.next → upd ρ H.next ⟨g, 0, tot⟩ b = some p → p.blk < w.heap.size := by
    intro b x p hb hl hne hp
    rw [upd_ne _ _ hne] at hp
    obtain ⟨q, Q, hq, hh⟩ := hs.place hb hl
    rw [hq] at hp; injection hp with hp; subst hp
    exact heap_lt hh
  have hol : ∀ x : AObj, x.own = true → x.live = true := by intro x h; cases x <;> simp_all [AObj.own, AObj.live]
  refine ⟨⟨?_, ?_, ?_⟩, hext, ?_, by simp, ?_, ?_, ?_⟩
  · intro b x h
    rw [Heap.get_push] at h
    split at h
    · rename_i e; subst e; injection h with h; subst h; exact ho
    · exact (hs.obj b x h).grow hext hkept
  · intro b b' x x' p p' h h' hne hl hw hp hp'
    rw [Heap.get_push] at h h'
    by_cases e : b = H.next
    · have e' : b' ≠ H.next := fun h => hne (e.trans h.symm)
      rw [if_neg e'] at h'
      have := hold b' x' p' h' (hol _ hw) e' hp'
      rw [e, upd_same] at hp; injection hp with hp; subst hp
      simp; omega
    · rw [if_neg e] at h
      by_cases e' : b' = H.next
      · have := hold b x p h hl e hp
        rw [e', upd_same] at hp'; injection hp' with hp'; subst hp'
        simp; omega
      · rw [if_neg e'] at h'
        rw [upd_ne _ _ e] at hp
        rw [upd_ne _ _ e'] at hp'
        exact hs.apart b b' x x' p p' h h' hne hl hw hp hp'
  · intro q hq
    obtain ⟨p, hp, r⟩ := hs.glob q hq
    exact ⟨p, hext _ _ hp, r⟩
  · intro b hb
    exact upd_ne _ _ (by simp at hb; omega)
  · intro b hb hr
    rw [Heap.get_push, if_neg (by simp at hr; omega)]
    exact hb
  · intro x y h hl hw
    rw [Heap.get_push] at h
    split at h
    · injection h with h; subst h; rw [hown] at hw; cases hw
    · exact h
  · refine ⟨hw.size, fun B y hy _ => hkept B y hy, ?_, hw.tape, hw.os, hw.output⟩
    rintro B ⟨b, x, p, hb, hx, hp, rfl⟩
    rw [Heap.get_push] at hb
    split at hb
    · rename_i e
      subst e
      rw [upd_same] at hp; injection hp with hp; subst hp
      exact .inl hg
    · rename_i e
      rw [upd_ne _ _ e] at hp
      exact .inr ⟨b, x, p, hb, hx, hp, rfl⟩
/-- Nothing of the world's blocks turned. -/
theorem Good.grownW {G : Nat} {ρ : Map} {H : Heap} {w w' : World} (hs : Sim G ρ H w) (hw : w.grownBy w' none) : Good G ρ H w ρ H w' :=
  have hkept : ∀ (B : Nat) (y : Obj), w.heap[B]? = some y → w'.heap[B]? = some y := fun B y hy => (hw.block B (heap_lt hy) (by simp)).trans hy
  { sim := { obj := fun b o hb => (hs.obj b o hb).grow (Ext.refl ρ) hkept, apart := hs.apart, glob := hs.glob }
    ext := Ext.refl ρ
    out := fun _ _ => rfl
    next := Nat.le_refl _
    dom := fun _ h _ => h
    ro := fun _ _ h _ _ => h
    keeps := { size := hw.size, kept := fun B o hB _ => hkept B o hB, owns := fun B h => .inr h, tape := hw.tape, os := hw.os, output := hw.output } }

/-! ## a method that hands back all keys of the map that its receiver begins with, rising -/
def allP (el : TypeId) : List AV → Heap → Option (AV × Heap)
  | [.ptr none], H => some (.slice none 0 0 none, H)
  | [.ptr (some (b, o))], H => match H.get b with
    | some (.cells c _ _ _) => match c[o]? with
      | some (.map (some r)) => match H.get r with
        | some (.map es) => match keysI es with
          | some ks => if ks.Nodup ∧ ks.length ≤ 100000 then
              (if ks = [] then some (.slice none 0 0 none, H) else some (.slice (some (H.next, 0)) ks.length ks.length (some 1), H.push (.cells (ints (sortI ks)) el true false)))
            else none
          | none => none
        | _ => none
      | _ => none
    | _ => none
  | _, _ => none
def allPrims (k : FuncId) (el : TypeId) : Prims := fun f => if f = k then some (allP el) else none
theorem allP_some {el : TypeId} {args : List AV} {H H' : Heap} {v : AV} (h : allP el args H = some (v, H')) : (args = [.ptr none] ∧ v = .slice none 0 0 none ∧ H' = H) ∨
    ∃ b o c t ow mk r es ks, args = [.ptr (some (b, o))] ∧ H.get b = some (.cells c t ow mk) ∧ c[o]? = some (.map (some r)) ∧ H.get r = some (.map es) ∧ keysI es = some ks ∧ ks.Nodup ∧ ks.length ≤ 100000 ∧
      ((ks = [] ∧ v = .slice none 0 0 none ∧ H' = H) ∨ (ks ≠ [] ∧ v = .slice (some (H.next, 0)) ks.length ks.length (some 1) ∧ H' = H.push (.cells (ints (sortI ks)) el true false))) := by
  unfold allP at h
  split at h
  · simp only [Option.some.injEq, Prod.mk.injEq] at h
    exact .inl ⟨rfl, h.1.symm, h.2.symm⟩
  · rename_i b o
    refine .inr ?_
    split at h
    case h_2 => cases h
    rename_i c t ow mk hc
    split at h
    case h_2 => cases h
    rename_i r hr
    split at h
    case h_2 => cases h
    rename_i es hes
    split at h
    case h_2 => cases h
    rename_i ks hks
    split at h
    case isFalse => cases h
    rename_i hb
    refine ⟨b, o, c, t, ow, mk, r, es, ks, rfl, hc, hr, hes, hks, hb.1, hb.2, ?_⟩
    split at h
    · rename_i h0
      simp only [Option.some.injEq, Prod.mk.injEq] at h
      exact .inl ⟨h0, h.1.symm, h.2.symm⟩
    · rename_i h0
      simp only [Option.some.injEq, Prod.mk.injEq] at h
      exact .inr ⟨h0, h.1.symm, h.2.symm⟩
  · cases h
theorem allPrims_rl (k : FuncId) (el : TypeId) : PrimsRl (allPrims k el) := by
  intro f g hf args H v H' hg
  unfold allPrims at hf
  split at hf
  · injection hf with hf; subst hf
    rcases allP_some hg with ⟨_, _, rfl⟩ | ⟨b, o, c, t, ow, mk, r, es, ks, _, _, _, _, _, _, _, h⟩
    · exact Rl.refl _
    · rcases h with ⟨_, _, rfl⟩ | ⟨_, _, rfl⟩
      · exact Rl.refl _
      · exact Rl.push _ _
  · cases hf
/-- What such a method's walk in the model shows. -/
def AllWalk (P : Program) (f : FuncId) (kt el : TypeId) : Prop :=
  (∀ W, Calls P f #[.pointer none] W fun e w' => e = .returned (.slice none 0 0) ∧ w' = W) ∧
  ∀ (blk off bm n : Nat) (D0 : DataW Unit) (W : World), W.cell? ⟨blk, off, none⟩ = some (.map (some bm)) → W.ownsMap P kt anyElem bm n D0 → Maps.size D0 ≤ 100000 →
    Calls P f #[.pointer (some ⟨blk, off, none⟩)] W fun e w' => ∃ v ss, e = .returned v ∧ ss.Perm (Go.intKeys D0) ∧
      w'.ownsRow W.heap.size el 1 v ss.length ((ss.mergeSort fun x y => decide (x ≤ y)).map (Value.int .i64)) ∧ (ss = [] → v = .slice none 0 0) ∧ W.grownBy w' none
theorem allPrims_ok {P : Program} {f : FuncId} {fn : Func} {kt el : TypeId} (hk : P.underlying kt = some (.int .i64)) (hw : AllWalk P f kt el) (h1 : P.funcs[f]? = some fn) (h2 : (fn.name == "runtime.NumGoroutine") = false) (h3 : fn.body.isNone = false) : PrimsOk P (allPrims f el) := by
  refine ⟨?_, ?_, ?_⟩
  · intro f' g hf args H v H' hg
    exact (allPrims_rl f el f' g hf args H v H' hg).1
  · intro f' g hf args H v H' hg ρ w us hs hwf hfree hargs
    unfold allPrims at hf
    split at hf
    · rename_i hff
      subst hff
      injection hf with hf
      subst hf
      unfold Does Delivers
      rw [run_callFunc_enter h1 h2 h3]
      rcases allP_some hg with ⟨rfl, rfl, rfl⟩ | ⟨b, o, c, t, ow, mk, r, es, ks, rfl, hc, hr, hes, hks, hnd, hlen, h⟩
      · obtain ⟨u, l, e1, e2, e3⟩ := hargs
        cases e3
        cases e2
        have : us = #[.pointer none] := by rw [← Array.toArray_toList (xs := us), e1]
        subst this
        exact (hw.1 w).mono fun e w' ⟨he, hw⟩ => ⟨_, he, ρ, by subst hw; exact Good.refl hs, rfl, rfl, rfl⟩
      · obtain ⟨u, l, e1, ⟨p, hp, e2⟩, e3⟩ := hargs
        cases e3
        subst e2
        have : us = #[.pointer (some ⟨p.blk, p.off + o, none⟩)] := by rw [← Array.toArray_toList (xs := us), e1]
        subst this
        obtain ⟨p', C, e', fr, hp', hh, hcr, hl, ht, hown⟩ := hs.obj b _ hc
        rw [hp] at hp'
        injection hp' with hp'; subst hp'
        obtain ⟨vm, hvm, q, hq, hq0, rfl⟩ := hcr o _ hr
        obtain ⟨q', m, clock, hq', _, _, hmh, hkr, hmk⟩ := hs.obj r _ hes
        rw [hq] at hq'
        injection hq' with hq'; subst hq'
        obtain ⟨D0, hD1, hD2, hD3⟩ := owns_of (P := P) hk hmh hkr hmk hks hnd hlen
        have hcell : w.cell? ⟨p.blk, p.off + o, none⟩ = some (.map (some q.blk)) := by simp [World.cell?, hh, hvm]
        refine (hw.2 p.blk (p.off + o) q.blk _ D0 w hcell hD1 (by omega)).mono fun e w' ⟨v', ss, he, hss, hrow, hnil, hgr⟩ => ?_
        have hsk : ss.Perm ks := hss.trans hD2
        rcases h with ⟨rfl, rfl, rfl⟩ | ⟨hne, rfl, rfl⟩
        · have : ss = [] := hsk.eq_nil
          exact ⟨_, he, ρ, Good.grownW hs hgr, rfl, rfl, hnil this⟩
        · have hl2 : ss.length = ks.length := hsk.length_eq
          rcases hrow.2 with ⟨_, h0⟩ | ⟨g, cap, cur, rfl, hgb, hgh, hn, hcap, hcs, hct⟩
          · exact absurd (List.eq_nil_of_length_eq_zero (hl2 ▸ h0)) hne
          · have hfr : ρ H.next = none := hfree _ (Nat.le_refl _) (by simp)
            rw [merge_sortI hsk, Nat.mul_one] at hct
            refine ⟨_, he, upd ρ H.next ⟨g, 0, cap⟩, Good.pushAt hs hfr hgr hgb ?_ rfl, ⟨g, 0, cap⟩, ⟨g, 0, none⟩, cap, upd_same _ _ _, by rw [hl2], Nat.le_refl _, by omega, .inr rfl, .inr ⟨1, rfl, by simp⟩⟩
            refine ⟨⟨g, 0, cap⟩, cur, el, (0, 0), upd_same _ _ _, hgh, ?_, ?_, ?_, fun _ => ⟨by simp; omega, .inl rfl⟩⟩
            · intro i a hi
              simp only [ints, List.getElem?_map] at hi
              cases hx : (sortI ks)[i]? with
              | none => rw [hx] at hi; cases hi
              | some x =>
                rw [hx] at hi
                injection hi with hi; subst hi
                have hil : i < ss.length := by
                  have := (List.getElem?_eq_some_iff.1 hx).1
                  rw [sortI_len] at this
                  omega
                have h5 : (cur.toList.take ss.length)[i]? = some (Value.int .i64 x) := by rw [hct]; simp [hx]
                rw [List.getElem?_take_of_lt hil, Array.getElem?_toList] at h5
                exact ⟨_, by simpa using h5, rfl⟩
            · simp [ints, sortI_len]; omega
            · simp [ints, sortI_len]; omega
    · cases hf
  · refine seqPrims_of fun f' g hf => ?_
    unfold allPrims at hf
    split at hf
    · rename_i hff
      subst hff
      exact ⟨fn, h1⟩
    · cases hf
end Go.Abs
