/- Texts on this program, joined. -/
import Derived.Test.YtkeenmalbkcjnaaKit04
import Derived.Test.YtkeenmalbkcjnaaOwn07
import Derived.Test.YtkeenmalbkcjnaaOwn10
import Derived.Test.YtkeenmalbkcjnaaRows
import Derived.WalkKit
import Derived.ProofKit
import Derived.OpenShut
import Derived.ShutString
import Derived.ChangeOld
import Derived.Below

/- The seat's own facts for its rows. -/
namespace Go.Proofs.Ytkeenmalbkcjnaa
open Go.ChangeShapes Go.WideShapes Go.ChangeAt Go.RowKit Go.Abs
set_option linter.unusedVariables false
set_option maxRecDepth 100000

theorem own : ownKnob Try.prog.godebug = none := by kernel_rfl
theorem laidOut : laidOutB Try.prog = true := by kernel_rfl
theorem mixed : Try.prog.follows .mixedOrders = true := by kernel_rfl
theorem plainN : plainNames Try.prog = true := by kernel_rfl
theorem baseOk : PrimsOk Try.prog base13 := Try.sortOk
theorem baseRl : PrimsRl base13 := sortPrims_rl 62
theorem run10 : ((acall Try.prog base13 40 10 [] (Heap.start Try.prog.globals.size)).map fun r => sameAV r.1 (.bool true)) = some true := by kernel_rfl
theorem runs10 : ∃ n H', acall Try.prog base13 n 10 [] (Heap.start Try.prog.globals.size) = some (.bool true, H') := runs_on run10
theorem primsOk : PrimsOk Try.prog pr13 := by
  refine orPrims_ok (closedPrims_on mixed plainN baseOk fun p hp => ?_) baseOk
  simp at hp
  subst hp
  exact ⟨rfl, runs10⟩
theorem primsRl : PrimsRl pr13 := orPrims_rl (closedPrims_rl _) baseRl
end Go.Proofs.Ytkeenmalbkcjnaa

/- SlotsClones: the row. -/
namespace Go.Proofs.Ytkeenmalbkcjnaa
open Go.ChangeShapes Go.WideShapes Go.ChangeAt Go.RowKit Go.Abs
set_option linter.unusedVariables false
set_option maxRecDepth 100000

theorem slotsClonesMain (H : Heap) (xs : List AV) (hG : Try.prog.globals.size ≤ H.next) (hw : Wf H) (h : PicAll Try.prog H 6 [46, 46] xs) : CallsA Try.prog pr13 6 xs H fun v _ => v = .bool true := by
  obtain ⟨a0, r0, rfl, h0, a1, r1, rfl, h1, hend⟩ := h
  obtain rfl : r1 = [] := hend
  refine Cl.callsA primsRl hw ?_
  obtain ⟨l, hl⟩ := actl_of (picV_slice Try.underlying46 h0)
  obtain ⟨m, hm⟩ := actl_of (picV_slice Try.underlying46 h1)
  exact slotsClones_main _ _ l m H hl hm

theorem slotsClonesLifted (os : Os) (started : os.Started) (H : Type) (enc : TypeId × Value → H) :
    ReturnsInHanded {} Try.checked os 6 .any (Rows.slotsClonesSpec.pre6 enc Try.prog Try.f6 Rows.slotsClonesRow.domain false) (Rows.slotsClonesSpec.post enc Try.prog Try.f6 false true false false) := by
  refine returnsInHanded_of_change (C := Try.checked) own started (by kernel_rfl) Try.func6
    (ChangeSpec.witness6 (enc := enc) (C := Try.checked) false ⟨#[], #[.slice none 0 0, .slice none 0 0], []⟩ 8 (by kernel_rfl) (by kernel_rfl) (by kernel_rfl) (by kernel_rfl)) ?_
  intro W base args ds gs before hval hW hcnd _
  have ep : Try.f6.params.toList = [46, 46] := by kernel_rfl
  refine law_post laidOut rfl (fun ds h => ?_) (tb := 4) (by kernel_rfl) Try.underlying4 ?_ hW (fun p hA => ?_)
  · rw [ep] at h
    match ds, h with
    | [a0, a1], _ => rfl
  · rw [ep]
    intro t ht
    simp at ht
    subst ht; exact ⟨by kernel_rfl, of_decide_eq_true (by kernel_rfl)⟩
  · refine law_calls primsOk mixed plainN Try.func6 rfl (n := 6) (base := base) (ts := Try.f6.params.toList) ?_ ?_ ?_ hA
    · rw [ep]
      intro t ht
      simp at ht
      subst ht; kernel_rfl
    · rw [ep]
      exact slotsClonesMain
    · intro j t v h1 h2
      exact hval j t v (by simpa using h1) (by simpa using h2)

theorem slotsClones : Rows.SlotsClonesSaid :=
  OpenClaim.holds_of_wide 6 Try.f6 rfl rfl rfl rfl rfl rfl rfl ⟨rfl, rfl, rfl, rfl, rfl⟩ rfl rfl rfl rfl rfl (by kernel_rfl) Try.func6 (by kernel_rfl)
    (of_decide_eq_true (by kernel_rfl)) (by unfold Func.isWrapper; first | (rw [if_pos (by decide +kernel)]; kernel_rfl) | (rw [if_neg (by decide +kernel)]; exact ⟨rfl, rfl⟩))
    (fun os started H enc _ => slotsClonesLifted os started H enc)
-- #print axioms slotsClones
end Go.Proofs.Ytkeenmalbkcjnaa
