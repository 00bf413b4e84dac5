/- Texts on the abstract machine, joined. -/
import Derived.Test.YtjbccgpaaaoljaaDoorKit06

/- Splitting at a byte, plainly; small memories of three blocks. -/
namespace Go.Abs
set_option linter.unusedVariables false
set_option linter.unusedSimpArgs false

def splitB (c : UInt8) : List UInt8 → List (List UInt8)
  | [] => [[]]
  | b :: r => if b = c then [] :: splitB c r else match splitB c r with
    | h :: t => (b :: h) :: t
    | [] => [[b]]
theorem splitB_ne (c : UInt8) : ∀ s, splitB c s ≠ []
  | [] => by simp [splitB]
  | b :: r => by
    unfold splitB
    split
    · simp
    · split <;> simp
theorem idx_ge (c : UInt8) : ∀ s, -1 ≤ Lib.indexByte s c
  | [] => by simp [Lib.indexByte]
  | b :: r => by
    have := idx_ge c r
    unfold Lib.indexByte
    split
    · omega
    · split <;> omega
theorem idx_lt (c : UInt8) : ∀ s, Lib.indexByte s c < s.length
  | [] => by simp [Lib.indexByte]
  | b :: r => by
    have := idx_lt c r
    unfold Lib.indexByte
    simp only [List.length_cons]
    split
    · omega
    · split <;> omega
theorem splitB_none {c : UInt8} : ∀ {s : List UInt8}, Lib.indexByte s c < 0 → splitB c s = [s]
  | [], _ => rfl
  | b :: r, h => by
    have hge := idx_ge c r
    unfold Lib.indexByte at h
    split at h
    · omega
    · rename_i hb
      have hr : Lib.indexByte r c < 0 := by
        split at h
        · rename_i h1; simp at h1; omega
        · omega
      have hbc : ¬ b = c := by simpa using hb
      simp [splitB, hbc, splitB_none hr]
theorem splitB_some {c : UInt8} : ∀ {s : List UInt8} {k : Nat}, Lib.indexByte s c = k → splitB c s = s.take k :: splitB c (s.drop (k + 1))
  | [], k, h => by simp [Lib.indexByte] at h
  | b :: r, k, h => by
    unfold Lib.indexByte at h
    split at h
    · rename_i hb
      have hbc : b = c := by simpa using hb
      obtain rfl : k = 0 := by omega
      simp [splitB, hbc]
    · rename_i hb
      have hbc : ¬ b = c := by simpa using hb
      split at h
      · omega
      · rename_i h1
        have hge := idx_ge c r
        have h1' : ¬ Lib.indexByte r c = -1 := by simpa using h1
        have hk : Lib.indexByte r c = ((k - 1 : Nat) : Int) := by omega
        have ih := splitB_some (s := r) hk
        obtain ⟨k', rfl⟩ : ∃ k', k = k' + 1 := ⟨k - 1, by omega⟩
        simp only [Nat.add_sub_cancel] at ih
        simp [splitB, hbc, ih]

/-- A memory of three blocks alone. -/
def K3 (nx b1 b2 b3 : Nat) (o1 o2 o3 : AObj) : Heap := ((({ next := nx, tree := .leaf } : Heap).set b1 o1).set b2 o2).set b3 o3
section
variable {nx b1 b2 b3 : Nat} {o1 o2 o3 : AObj}
theorem K3.next : (K3 nx b1 b2 b3 o1 o2 o3).next = nx := by simp [K3]
theorem K3.get (h12 : b1 ≠ b2) (h13 : b1 ≠ b3) (h23 : b2 ≠ b3) (b : Nat) : (K3 nx b1 b2 b3 o1 o2 o3).get b = if b = b1 then some o1 else if b = b2 then some o2 else if b = b3 then some o3 else none := by
  unfold K3
  simp only [Heap.get_set]
  have : ({ next := nx, tree := .leaf } : Heap).get b = none := rfl
  rw [this]
  by_cases e1 : b = b1
  · subst e1; simp [h12, h13]
  · by_cases e2 : b = b2
    · subst e2; simp [e1, h23]
    · simp [e1, e2]
theorem K3.wf (l1 : b1 < nx) (l2 : b2 < nx) (l3 : b3 < nx) (h12 : b1 ≠ b2) (h13 : b1 ≠ b3) (h23 : b2 ≠ b3) : Wf (K3 nx b1 b2 b3 o1 o2 o3) := by
  intro b hb
  rw [K3.next] at hb
  rw [K3.get h12 h13 h23, if_neg (by omega), if_neg (by omega), if_neg (by omega)]
end
end Go.Abs
