/- Texts on this program, joined. -/
import Derived.Test.YtjbccgpaaaoljaaDoorOwn05
import Derived.Test.YtjbccgpaaaoljaaDoorKit06

/- Chapter 15: strings.Index at one byte, walked. -/
namespace Go.Abs
open Go.Proofs
set_option maxRecDepth 100000
set_option linter.unusedVariables false
set_option linter.unusedSimpArgs false

def pb15 : Prims := extPrims [(53, ibAV)]
theorem ib_ok (s : List UInt8) (c : UInt8) (H : Heap) : Cl Tryd.prog pb15 53 [.str s, .int .u8 c.toNat] H fun v H' => v = .int .i64 (Lib.indexByte s c) ∧ H' = H := by
  refine Cl.prim (v := .int .i64 (Lib.indexByte s c)) (H' := H) (g := fun args H => match ibAV args with | some v => some (v, H) | none => none) rfl ?_ ⟨rfl, rfl⟩
  simp [ibAV]
theorem ib49_ok (s : List UInt8) (c : UInt8) (H : Heap) : Cl Tryd.prog pb15 49 [.str s, .int .u8 c.toNat] H fun v H' => v = .int .i64 (Lib.indexByte s c) ∧ H' = H := by
  refine Cl.enter Tryd.func49 rfl rfl Tryd.ntmps49 (by simp) ?_
  refine walk none0 ?_
  refine (ib_ok s c H).mono fun v H1 _ ⟨e1, e2⟩ => ?_
  subst e1; subst e2
  refine walk none0 ?_
  exact ⟨rfl, rfl⟩
theorem index44_ok (s : List UInt8) (c : UInt8) (H : Heap) : Cl Tryd.prog pb15 44 [.str s, .str [c]] H fun v H' => v = .int .i64 (Lib.indexByte s c) ∧ H' = H := by
  have hl : ([c] : List UInt8).length = 1 := rfl
  have h0 : ([c] : List UInt8)[0]? = some c := rfl
  have he : s = [c] → Lib.indexByte s c = 0 := by rintro rfl; simp [Lib.indexByte]
  generalize ([c] : List UInt8) = p at *
  have hne : ¬ p = [] := by rintro rfl; simp at hl
  refine Cl.enter Tryd.func44 rfl rfl Tryd.ntmps44 (by simp) ?_
  refine walk hl ?_
  by_cases h : p = s
  · subst h
    refine walk hl ?_
    exact ⟨by rw [he rfl], rfl⟩
  · refine walk (both h (both hl h0)) ?_
    refine (ib49_ok s c H).mono fun v H1 _ ⟨e1, e2⟩ => ?_
    subst e1; subst e2
    refine walk none0 ?_
    exact ⟨rfl, rfl⟩
theorem idx38_ok (s : List UInt8) (c : UInt8) (H : Heap) : Cl Tryd.prog pb15 38 [.str s, .str [c]] H fun v H' => v = .int .i64 (Lib.indexByte s c) ∧ H' = H := by
  refine Cl.enter Tryd.func38 rfl rfl Tryd.ntmps38 (by simp) ?_
  refine walk none0 ?_
  refine (index44_ok s c H).mono fun v H1 _ ⟨e1, e2⟩ => ?_
  subst e1; subst e2
  refine walk none0 ?_
  exact ⟨rfl, rfl⟩
end Go.Abs
