/- Texts on the abstract machine, joined. -/
import Derived.Test.YtmggofidibhabaaKit06

/- Parts of slices that are read, and cells set in rows. -/
namespace Go.Abs
set_option linter.unusedVariables false
section
variable {H : Heap}
theorem Sl.sub {s b o n cap ex} {cs : List AV} (h : Sl H s (.slice (some (b, o)) n cap ex) n cs) {k m cap' : Nat} {ex' : Option Nat} (hk : k + m ≤ n) (hc : m ≤ cap') (he : ex' = none ∨ ex' = some s) :
    Sl H s (.slice (some (b, o + k * s)) m cap' ex') m ((cs.drop (k * s)).take (m * s)) := by
  have hl := h.len
  unfold Sl at h ⊢
  have hks : k * s + m * s ≤ n * s := by rw [← Nat.add_mul]; exact Nat.mul_le_mul_right s hk
  refine ⟨by rw [List.length_take, List.length_drop]; omega, .inr ⟨b, o + k * s, cap', ex', rfl, hc, he, fun h0 => ?_⟩⟩
  rcases h.2 with ⟨e, rfl⟩ | ⟨b', o', cap, ex, e, h1, h2, h3⟩
  · omega
  · injection e with e1 _ _ _
    simp only [Option.some.injEq, Prod.mk.injEq] at e1
    obtain ⟨rfl, rfl⟩ := e1
    obtain ⟨g1, c, t, w, mk, g2, g3, g4⟩ := h3 (by omega)
    exact ⟨g1, c, t, w, mk, g2, by omega, sub_take g4 hks⟩
theorem bytes_take (x : List UInt8) (k : Nat) : (cellsOfBytes x).take k = cellsOfBytes (x.take k) := by simp [cellsOfBytes]
theorem bytes_drop (x : List UInt8) (k : Nat) : (cellsOfBytes x).drop k = cellsOfBytes (x.drop k) := by simp [cellsOfBytes]
theorem bytes_app (x y : List UInt8) : cellsOfBytes x ++ cellsOfBytes y = cellsOfBytes (x ++ y) := by simp [cellsOfBytes]
theorem set_sub {c cs : List AV} {o m i : Nat} {v : AV} (h : (c.drop o).take m = cs) (hi : i < m) : ((c.set (o + i) v).drop o).take m = cs.set i v := by
  subst h
  apply List.ext_getElem?
  intro j
  simp only [List.getElem?_take, List.getElem?_drop, List.getElem?_set, List.length_take, List.length_drop]
  by_cases hj : j < m
  · simp only [if_pos hj]
    by_cases e : i = j
    · subst e
      simp only [if_true]
      by_cases hl : o + i < c.length
      · rw [if_pos hl, if_pos (by omega)]
      · rw [if_neg hl, if_neg (by omega)]
    · rw [if_neg (by omega), if_neg e]
  · simp only [if_neg hj]
    rw [if_neg (by omega)]
/-- One cell of one row set. -/
theorem Rows.put {α : Type} {S : Shape α} {ok : Nat → Prop} {c : List AV} {l : List α} {i k : Nat} {v : AV} {y : α} (h : Rows S H ok c l) (hi : i < l.length) (hk : k < S.s) (hx : S.R H ok (((c.drop (i * S.s)).take S.s).set k v) y) : Rows S H ok (c.set (i * S.s + k) v) (l.set i y) := by
  have h1 := h.1
  have hf := idx_fit (s := S.s) hi
  refine ⟨by rw [List.length_set, List.length_set, h1], fun j z hz => ?_⟩
  by_cases hj : j = i
  · subst hj
    rw [List.getElem?_set_self (by omega)] at hz
    injection hz with hz; subst hz
    rw [set_sub rfl hk]
    exact hx
  · rw [List.getElem?_set_ne (by omega)] at hz
    have hjl : j < l.length := by
      rcases Nat.lt_or_ge j l.length with h | h
      · exact h
      · rw [List.getElem?_eq_none h] at hz; cases hz
    have e : ((c.set (i * S.s + k) v).drop (j * S.s)).take S.s = (c.drop (j * S.s)).take S.s := by
      apply List.ext_getElem?
      intro q
      simp only [List.getElem?_take, List.getElem?_drop, List.getElem?_set]
      by_cases hq : q < S.s
      · simp only [if_pos hq]
        rw [if_neg]
        intro e
        rcases Nat.lt_or_ge j i with h' | h'
        · have := idx_fit (s := S.s) h'; omega
        · have := idx_fit (s := S.s) (show i < j by omega); omega
      · simp only [if_neg hq]
    rw [e]
    exact h.2 j z hz
end
theorem List0.cut {α : Type} {S : Shape α} {H : Heap} {ok : Nat → Prop} {b o cap : Nat} {ex : Option Nat} {l : List α} (h : List0 S H ok (.slice (some (b, o)) l.length cap ex) l) {k : Nat} (hk : k ≤ l.length) :
    List0 S H ok (.slice (some (b, o)) k k none) (l.take k) ∧ List0 S H ok (.slice (some (b, o + k * S.s)) (l.length - k) (cap - k) ex) (l.drop k) := by
  obtain ⟨c, h1, h2, h3, h4⟩ := h.open
  obtain ⟨a, cap', ex', e, hc, he⟩ := h1.form
  injection e with e1 e2 e3 e4
  subst e1; subst e3; subst e4
  refine ⟨List0.mk (c := c.take (k * S.s)) ?_ ?_ ?_ (h4.take k), List0.mk (c := c.drop (k * S.s)) ?_ ?_ ?_ (h4.drop k)⟩
  · have := h1.sub (k := 0) (m := k) (cap' := k) (ex' := none) (by omega) (Nat.le_refl _) (.inl rfl)
    rw [List.length_take, Nat.min_eq_left hk]
    simpa using this
  · intro b' hb' h0
    rw [List.length_take] at h0
    exact h2 b' (by rw [← hb']; rfl) (by omega)
  · rw [List.length_take]; omega
  · have := h1.sub (k := k) (m := l.length - k) (cap' := cap - k) (ex' := ex) (by omega) (by omega) he
    rw [List.length_drop]
    rw [List.take_of_length_le (by rw [List.length_drop, h4.1, Nat.sub_mul]; omega)] at this
    exact this
  · intro b' hb' h0
    rw [List.length_drop] at h0
    exact h2 b' (by rw [← hb']; rfl) (by omega)
  · rw [List.length_drop]; omega
end Go.Abs
