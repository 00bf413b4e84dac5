/- Texts on the abstract machine, joined. -/
import Derived.Test.YtflbhhfdogpklaaKit10

/- Lists of texts in memory. -/
namespace Go.Abs

set_option maxRecDepth 100000
set_option linter.unusedVariables false
set_option linter.unusedSimpArgs false

abbrev Txt := List UInt8
def strs (l : List Txt) : List AV := l.map AV.str
@[simp] theorem strs_len (l : List Txt) : (strs l).length = l.length := by simp [strs]
theorem strs_one (l : List Txt) : (strs l).all AV.one = true := by
  rw [List.all_eq_true]; intro x hx; simp [strs] at hx; obtain ⟨y, _, rfl⟩ := hx; rfl
theorem strs_app (l m : List Txt) : strs l ++ strs m = strs (l ++ m) := by simp [strs]
/-- A slice that holds these texts. -/
def Ss (H : Heap) (v : AV) (l : List Txt) : Prop := Sl H 1 v l.length (strs l)
theorem Ss.kept {H H' : Heap} {v : AV} {l : List Txt} (h : Ss H v l) (u : Keep H H') : Ss H' v l := Sl.kept h u
theorem str_at {H : Heap} {a : Option (Nat × Nat)} {n cap : Nat} {ex : Option Nat} {l : List Txt} {i : Nat} {x : Txt} (h : Ss H (.slice a n cap ex) l) (hx : l[i]? = some x) :
    ∃ b o c t w m, a = some (b, o) ∧ n = l.length ∧ b < H.next ∧ H.get b = some (.cells c t w m) ∧ o + i < c.length ∧ c[o + i]? = some (.str x) := by
  have hi := (List.getElem?_eq_some_iff.1 hx).1
  obtain ⟨a', cap', ex', e, _⟩ := Sl.form h
  injection e with e1 e2 e3 e4
  subst e1; subst e2; subst e3; subst e4
  obtain ⟨b, o, c, t, w, m, rfl, h1, h2, h3, h4⟩ := Sl.at h (by omega)
  refine ⟨b, o, c, t, w, m, rfl, rfl, h1, h2, by omega, ?_⟩
  rw [sub_get h4 (by omega)]
  simp [strs, hx]
theorem Ss.form {H : Heap} {v : AV} {l : List Txt} (h : Ss H v l) : ∃ a cap ex, v = .slice a l.length cap ex ∧ l.length ≤ cap ∧ (ex = none ∨ ex = some 1) := Sl.form h
theorem get_lt' {α : Type} {l : List α} {i : Nat} (h : i < l.length) : ∃ x, l[i]? = some x := ⟨l[i], by simp [h]⟩
theorem Ss.pushed {H : Heap} {l : List Txt} {n : Nat} {t : TypeId} {w m : Bool} (hn : n = l.length) {ex : Option Nat} (hex : ex = none ∨ ex = some 1) {cs : List AV} (hcs : cs = strs l) : Ss (H.push (.cells cs t w m)) (.slice (some (H.next, 0)) n n ex) l := by
  subst hn; subst hcs
  unfold Ss Sl
  refine ⟨by simp, .inr ⟨H.next, 0, l.length, ex, rfl, Nat.le_refl _, hex, fun h0 => ⟨by simp, strs l, t, w, m, by simp, by simp, by simp [List.take_of_length_le]⟩⟩⟩
end Go.Abs
