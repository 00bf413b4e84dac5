/- Chapter 04: SparseNil, the row. -/
import Derived.Test.YtpcchlcbmhmopaaS04NilLaw
import Derived.Test.YtpcchlcbmhmopaaRows
import Derived.WalkKit
import Derived.ProofKit
import Derived.OpenShut
import Derived.ShutString
import Derived.ChangeOld
import Derived.Below
namespace Go.Proofs.Ytpcchlcbmhmopaa
open Go.ChangeShapes Go.WideShapes Go.ChangeAt Go.RowKit Go.Abs
set_option linter.unusedVariables false
set_option maxRecDepth 100000

theorem own : ownKnob Try.prog.godebug = none := by kernel_rfl
theorem laidOut : laidOutB Try.prog = true := by kernel_rfl
theorem mixed : Try.prog.follows .mixedOrders = true := by kernel_rfl
theorem plainN : plainNames Try.prog = true := by kernel_rfl
theorem livesRun : ((acall Try.prog noPrims 30 14 [] (Heap.start Try.prog.globals.size)).map fun r => match r.1 with | .bool b => b | _ => false) = some true := by kernel_rfl

theorem livesOk : ∃ n H', acall Try.prog noPrims n 14 [] (Heap.start Try.prog.globals.size) = some (.bool true, H') := by
  have h := livesRun
  cases hr : acall Try.prog noPrims 30 14 [] (Heap.start Try.prog.globals.size) with
  | none => rw [hr] at h; simp at h
  | some r =>
    rw [hr] at h
    obtain ⟨v, H'⟩ := r
    refine ⟨30, H', ?_⟩
    rw [hr]
    cases v with
    | bool b => simp at h; subst h; rfl
    | _ => simp at h

theorem primsOk : PrimsOk Try.prog (closedPrims [(14, .bool true)]) := by
  refine closedPrims_ok mixed plainN fun p hp => ?_
  simp at hp
  subst hp
  exact ⟨rfl, livesOk⟩

theorem nilMain (H : Heap) (xs : List AV) (hG : Try.prog.globals.size ≤ H.next) (hw : Wf H) (h : PicAll Try.prog H 4 [3, 3, 25] xs) : CallsA Try.prog (closedPrims [(14, .bool true)]) 6 xs H fun v _ => v = .bool true := by
  obtain ⟨a, r, rfl, h1, b, r, rfl, h2, c, r, rfl, h3, h4⟩ := h
  have : r = [] := h4
  subst this
  simp only [PicV, Try.underlying3, Pic] at h1 h2
  obtain ⟨off, e1, _⟩ := h1
  obtain ⟨n, e2, _⟩ := h2
  injection e1 with e1 _
  injection e2 with e2 _
  subst e1; subst e2
  refine sparseNil_main (fun f hf => ?_) rfl off n c H hw
  unfold closedPrims
  have : ([(14, AV.bool true)] : List (FuncId × AV)).find? (fun p => p.1 == f) = none := by
    simp only [List.find?_cons, List.find?_nil]
    split
    · rename_i h; simp at h; exact absurd h.symm hf
    · rfl
  rw [this]

theorem nilLifted (os : Os) (started : os.Started) (H : Type) (enc : TypeId × Value → H) :
    ReturnsInHanded {} Try.checked os 6 .any (Rows.sparseNilSpec.pre6 enc Try.prog Try.f6 Rows.sparseNilRow.domain false) (Rows.sparseNilSpec.post enc Try.prog Try.f6 false true false false) := by
  refine returnsInHanded_of_change (C := Try.checked) own started (by kernel_rfl) Try.func6
    (ChangeSpec.witness6 (enc := enc) (C := Try.checked) false ⟨#[], #[.int .i64 0, .int .i64 0, .slice none 0 0], []⟩ 8 (by kernel_rfl) (by kernel_rfl) (by kernel_rfl) (by kernel_rfl)) ?_
  intro W base args ds gs before hval hW hcnd _
  have ep : Try.f6.params.toList = [3, 3, 25] := by kernel_rfl
  refine law_post laidOut rfl (fun ds h => ?_) (tb := 4) (by kernel_rfl) Try.underlying4 ?_ hW (fun p hA => ?_)
  · rw [ep] at h
    match ds, h with
    | [a, b, c], _ => rfl
  · rw [ep]
    intro t ht
    simp at ht
    rcases ht with rfl | rfl <;> exact ⟨by kernel_rfl, of_decide_eq_true (by kernel_rfl)⟩
  · refine law_calls primsOk mixed plainN Try.func6 rfl (n := 4) (base := base) (ts := Try.f6.params.toList) ?_ ?_ ?_ hA
    · rw [ep]
      intro t ht
      simp at ht
      rcases ht with rfl | rfl <;> kernel_rfl
    · rw [ep]
      exact nilMain
    · intro j t v h1 h2
      exact hval j t v (by simpa using h1) (by simpa using h2)

theorem sparseNil : Rows.SparseNilSaid :=
  OpenClaim.holds_of_wide 6 Try.f6 rfl rfl rfl rfl rfl rfl rfl ⟨rfl, rfl, rfl, rfl, rfl⟩ rfl rfl rfl rfl rfl (by kernel_rfl) Try.func6 (by kernel_rfl)
    (of_decide_eq_true (by kernel_rfl)) (by unfold Func.isWrapper; first | (rw [if_pos (by decide +kernel)]; kernel_rfl) | (rw [if_neg (by decide +kernel)]; exact ⟨rfl, rfl⟩))
    (fun os started H enc _ => nilLifted os started H enc)
-- #print axioms sparseNil
end Go.Proofs.Ytpcchlcbmhmopaa
