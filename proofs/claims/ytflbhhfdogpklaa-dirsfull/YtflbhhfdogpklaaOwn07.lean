/- Texts on this program, joined. -/
import Derived.Test.YtflbhhfdogpklaaOwn05
import Derived.Test.YtflbhhfdogpklaaKit06
import Derived.KernelRfl

/- Chapter 05: functions told by hand. -/
namespace Go.Proofs
set_option linter.unusedVariables false
open Go.Shelf Go.Abs
theorem Try.set150 : (Try.prog.info? (Try.lays150_ren.t 116)).map (fun i => (i.zero, i.size)) = some (some (.agg (Array.replicate 256 (.bool false))), 256) := by kernel_rfl
theorem Try.says30 : BodySays Try.prog 30 containsAV := says_contains Try.lays150 Try.set150 (by kernel_rfl) Try.func30 (by kernel_rfl) (by kernel_rfl)
theorem Try.says43 : ExtSays Try.prog 43 cmpAV := says_cmp Try.func43 (by kernel_rfl) (by kernel_rfl) (by kernel_rfl) (by kernel_rfl)
end Go.Proofs
