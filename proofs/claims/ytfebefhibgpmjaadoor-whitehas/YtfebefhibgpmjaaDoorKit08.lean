/- Texts on the abstract machine, joined. -/
import Derived.Test.YtfebefhibgpmjaaDoorKit06

/- Lists of numbers in memory. -/
namespace Go.Abs
set_option maxRecDepth 100000
set_option linter.unusedVariables false
set_option linter.unusedSimpArgs false

def ints (l : List Int) : List AV := l.map (AV.int .i64)
@[simp] theorem ints_len (l : List Int) : (ints l).length = l.length := by simp [ints]
theorem ints_one (l : List Int) : (ints l).all AV.one = true := by
  rw [List.all_eq_true]; intro x hx; simp [ints] at hx; obtain ⟨y, _, rfl⟩ := hx; rfl
theorem ints_app (l m : List Int) : ints l ++ ints m = ints (l ++ m) := by simp [ints]
theorem ints_take (l : List Int) (n : Nat) : (ints l).take n = ints (l.take n) := by simp [ints]
/-- A slice that holds these numbers. -/
def Is (H : Heap) (v : AV) (l : List Int) : Prop := Sl H 1 v l.length (ints l)
theorem Is.kept {H H' : Heap} {v : AV} {l : List Int} (h : Is H v l) (u : Keep H H') : Is H' v l := Sl.kept h u
theorem int_at {H : Heap} {a : Option (Nat × Nat)} {n cap : Nat} {ex : Option Nat} {l : List Int} {i : Nat} {x : Int} (h : Is H (.slice a n cap ex) l) (hx : l[i]? = some x) :
    ∃ b o c t w m, a = some (b, o) ∧ n = l.length ∧ b < H.next ∧ H.get b = some (.cells c t w m) ∧ o + i < c.length ∧ c[o + i]? = some (.int .i64 x) := by
  have hi := (List.getElem?_eq_some_iff.1 hx).1
  obtain ⟨a', cap', ex', e, _⟩ := Sl.form h
  injection e with e1 e2 e3 e4
  subst e1; subst e2; subst e3; subst e4
  obtain ⟨b, o, c, t, w, m, rfl, h1, h2, h3, h4⟩ := Sl.at h (by omega)
  refine ⟨b, o, c, t, w, m, rfl, rfl, h1, h2, by omega, ?_⟩
  rw [sub_get h4 (by omega)]
  simp [ints, hx]
theorem Is.form {H : Heap} {v : AV} {l : List Int} (h : Is H v l) : ∃ a cap ex, v = .slice a l.length cap ex ∧ l.length ≤ cap ∧ (ex = none ∨ ex = some 1) := Sl.form h
theorem geti_lt {α : Type} {l : List α} {i : Nat} (h : i < l.length) : ∃ x, l[i]? = some x := ⟨l[i], by simp [h]⟩
theorem Is.cut {H : Heap} {b o cap : Nat} {ex : Option Nat} {l : List Int} {n : Nat} (h : Is H (.slice (some (b, o)) l.length cap ex) l) (hn : n ≤ l.length) (hc : l.length ≤ cap) (hex : ex = none ∨ ex = some 1) : Is H (.slice (some (b, o)) n cap ex) (l.take n) := by
  have := Sl.sub h (k := 0) (m := n) (cap' := cap) (ex' := ex) (by omega) (by omega) hex
  simp only [Nat.zero_mul, Nat.add_zero, List.drop_zero, Nat.mul_one] at this
  unfold Is
  rw [List.length_take, Nat.min_eq_left hn, ← ints_take]
  exact this
theorem FreshG.put {H0 H : Heap} {elem : TypeId} {s n : Nat} {v : AV} {cs : List AV} (f : FreshG H0 H elem s v n cs) {b : Nat} (o : AObj) (h0 : H0.next ≤ b) (hb : b < H.next) (hv : slBlock v ≠ some b) : FreshG H0 (H.set b o) elem s v n cs :=
  ⟨f.own.keep (by simp) fun z hz hlt => Heap.get_set_ne _ _ (fun e => hv (e ▸ hz)), f.keep.set _ hb (by omega), f.new⟩
end Go.Abs
