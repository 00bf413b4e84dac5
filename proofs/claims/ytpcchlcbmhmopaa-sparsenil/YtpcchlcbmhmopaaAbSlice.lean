/- Slices that the run has made and goes on appending to. -/
import Derived.Test.YtpcchlcbmhmopaaAbSimp
import Derived.Test.YtpcchlcbmhmopaaAbOps2
namespace Go.Abs
set_option linter.unusedVariables false

section
variable {P : Program} {N : Nat} {e : Nat → AV} {H : Heap}

theorem loadR_ptr {t : TypeId} {b o : Nat} : loadR P t (some (.ptr (some (b, o)))) H = match tagg P t, tsz P t, H.get b with
    | some g, some n, some x => match readVar g n o x with
      | some v => some (v, H)
      | none => none
    | _, _, _ => none := by unfold loadR; rfl

theorem storeR_ptr {t : TypeId} {b o : Nat} {v : AV} : storeR P t (some (.ptr (some (b, o)))) (some v) H = if tsz P t = some v.cells.length then match writeCells H b o v.cells with
      | some H' => some (.undef, H')
      | none => none
    else none := by unfold storeR; rfl

theorem builtinR_eq {b : Builtin} {ts : Array TypeId} {args : List AV} : builtinR P b ts (some args) H = match builtinSem P b ts args with
    | some s => s.run H
    | none => none := by unfold builtinR; rfl

/-- A slice of the run's own, with these cells, and no room behind them that is known of. -/
def OwnSl (H : Heap) (elem : TypeId) (s : Nat) (v : AV) (n : Nat) (cs : List AV) : Prop :=
  (v = .slice none 0 0 none ∧ n = 0 ∧ cs = []) ∨
  ∃ b sl, v = .slice (some (b, 0)) n n sl ∧ (sl = none ∨ sl = some s) ∧ cs.length = n * s ∧ b < H.next ∧ H.get b = some (.cells cs elem true false)

/-- Its block. -/
def slBlock : AV → Option Nat
  | .slice (some (b, _)) _ _ _ => some b
  | _ => none

/-- Nothing but one block has turned; blocks have come. -/
def ButOne (ob : Option Nat) (H H' : Heap) : Prop := H.next ≤ H'.next ∧ (Wf H → Wf H') ∧ ∀ b, b < H.next → some b ≠ ob → H'.get b = H.get b

theorem OwnSl.len {elem : TypeId} {s n : Nat} {v : AV} {cs : List AV} (h : OwnSl H elem s v n cs) : cs.length = n * s := by
  rcases h with ⟨_, rfl, rfl⟩ | ⟨b, sl, _, _, h, _⟩
  · simp
  · exact h

theorem OwnSl.keep {H' : Heap} {elem : TypeId} {s n : Nat} {v : AV} {cs : List AV} (h : OwnSl H elem s v n cs) (hn : H.next ≤ H'.next) (hg : ∀ b, slBlock v = some b → b < H.next → H'.get b = H.get b) : OwnSl H' elem s v n cs := by
  rcases h with h | ⟨b, sl, rfl, h1, h2, h3, h4⟩
  · exact .inl h
  · exact .inr ⟨b, sl, rfl, h1, h2, by omega, (hg b rfl h3).trans h4⟩

theorem push_wf (o : AObj) (h : Wf H) : Wf (H.push o) := by
  intro b hb
  rw [Heap.next_push] at hb
  rw [Heap.get_push, if_neg (by omega)]
  exact h b (by omega)

theorem srcCells_own {elem : TypeId} {s n m : Nat} {v : AV} {cs : List AV} (h : OwnSl H elem s v n cs) : srcCells H s n v = some cs := by
  rcases h with ⟨rfl, rfl, rfl⟩ | ⟨b, sl, rfl, _, hl, _, hg⟩
  · rfl
  · simp only [srcCells]
    by_cases h0 : n * s = 0
    · rw [if_pos h0]
      congr 1
      exact (List.eq_nil_of_length_eq_zero (by omega)).symm
    · rw [if_neg h0, if_pos (Nat.le_refl _)]
      simp only [cellsAt, hg]
      rw [if_pos (by omega)]
      simp only [List.drop_zero]
      rw [List.take_of_length_le (by omega)]

theorem appendA_own {elem : TypeId} {s bytes n m : Nat} {base : Option (Nat × Nat)} {c : Nat} {ex : Option Nat} {cs new : List AV} (h : OwnSl H elem s (.slice base n c ex) n cs)
    (hl : new.length = m * s) (hone : new.all AV.one = true) (hb : (n + m) * bytes ≤ 2 ^ 46) (hn : n + m ≤ 2 ^ 46) :
    ∃ v' H', appendA elem s bytes base n c ex m new H = some (v', H') ∧ OwnSl H' elem s v' (n + m) (cs ++ new) ∧ ButOne (slBlock (.slice base n c ex)) H H' ∧
      (slBlock v' = slBlock (.slice base n c ex) ∨ slBlock v' = some H.next) := by
  have hgf : ∀ c k, growFits (n + m) c bytes k = true := by
    intro c k
    simp only [growFits, Bool.and_eq_true, Bool.or_eq_true, decide_eq_true_eq]
    exact ⟨by omega, .inl ⟨hb, hn⟩⟩
  unfold appendA
  by_cases hm : m = 0
  · subst hm
    have hnew : new = [] := List.eq_nil_of_length_eq_zero (by simpa using hl)
    subst hnew
    rcases h with ⟨e1, rfl, rfl⟩ | ⟨b, sl, e1, h1, h2, h3, h4⟩
    · injection e1 with e1 _ e2 e3
      subst e1; subst e2; subst e3
      exact ⟨_, H, rfl, .inl ⟨rfl, rfl, rfl⟩, ⟨Nat.le_refl _, id, fun _ _ _ => rfl⟩, .inl rfl⟩
    · injection e1 with e1 _ e2 e3
      subst e1; subst e2; subst e3
      exact ⟨.slice (some (b, 0)) c c ex, H, by simp [writeCells], .inr ⟨b, ex, rfl, h1, by simpa using h2, h3, by simpa using h4⟩, ⟨Nat.le_refl _, id, fun _ _ _ => rfl⟩, .inl rfl⟩
  · have hsrc := srcCells_own (m := m) h
    have hcl := h.len
    have hc : c = n := by
      rcases h with ⟨e1, rfl, _⟩ | ⟨b, sl, e1, _⟩
      · injection e1
      · injection e1
    subst hc
    rw [if_neg (by omega), if_pos (hgf _ _), hsrc]
    have hlen : (cs ++ new).length = (c + m) * s := by rw [List.length_append, hcl, hl, Nat.add_mul]
    rcases h with ⟨e1, rfl, rfl⟩ | ⟨b, sl, e1, h1, h2, h3, h4⟩
    · injection e1 with e1 _ _ e3
      subst e1; subst e3
      refine ⟨_, _, rfl, .inr ⟨H.next, some s, rfl, .inr rfl, hlen, by simp, by rw [Heap.get_push, if_pos rfl]⟩, ⟨by simp, push_wf _, fun b hb _ => by rw [Heap.get_push, if_neg (by omega)]⟩, .inr rfl⟩
    · injection e1 with e1 _ _ e3
      subst e1; subst e3
      rcases h1 with rfl | rfl
      · refine ⟨_, _, rfl, .inr ⟨H.next, some s, rfl, .inr rfl, hlen, by simp, by rw [Heap.get_push, if_pos rfl]⟩, ⟨by simp, push_wf _, fun b hb _ => by rw [Heap.get_push, if_neg (by omega)]⟩, .inr rfl⟩
      · simp only [h4]
        rw [if_pos ⟨trivial, by omega, hone⟩]
        refine ⟨_, _, rfl, .inr ⟨H.next, some s, rfl, .inr rfl, hlen, by simp, ?_⟩, ⟨by simp, ?_, ?_⟩, .inr rfl⟩
        · rw [Heap.get_push, Heap.next_set, if_pos rfl]
        · intro hw
          apply push_wf
          intro x hx
          rw [Heap.next_set] at hx
          rw [Heap.get_set, if_neg (by omega)]
          exact hw x hx
        · intro x hx hne
          rw [Heap.get_push, Heap.next_set, if_neg (by omega), Heap.get_set, if_neg (fun e => hne (by rw [e]; rfl))]

/-- Which append it is. -/
theorem append_eq {ts : Array TypeId} {t elem : TypeId} {s bytes : Nat} {z : AV} {t1 : TypeId} {d1 : TypeDesc} {base : Option (Nat × Nat)} {n c m : Nat} {ex : Option Nat} {x : AV} {new : List AV}
    (ht : ts[0]? = some t) (hu : P.underlying t = some (.slice elem)) (hs : tsz P elem = some s) (hb : tbytes P elem = some bytes) (hz : tzero P elem = some z) (hzl : z.cells.length = s)
    (hc : isCount P ts[1]? = false) (ht1 : ts[1]? = some t1) (hu1 : P.underlying t1 = some d1) (hx : srcLen x = some m) (hsrc : srcCells H s m x = some new) (hl : new.length = m * s) :
    builtinR P .append ts (some [.slice base n c ex, x]) H = appendA elem s bytes base n c ex m new H := by
  rw [builtinR_eq]
  rw [ht1] at hc
  simp only [builtinSem, appendSem, ht, hu, hs, hb, hz, hzl, ne_eq, not_true, if_false, hc, ht1, hu1, hx, Sm.run, hsrc, hl, if_true, Bool.false_eq_true]

end
end Go.Abs
