/- Texts on the abstract machine, joined. -/
import Derived.Test.YtllnhgcndinodaaKit04
import Derived.Lib.Bytealg

/- Stand-ins of internal/bytealg, for the abstract machine. -/
namespace Go.Abs
set_option linter.unusedVariables false

def cmpAV : List AV → Option AV
  | [.str a, .str b] => some (.int .i64 (Lib.compareBytes a b))
  | _ => none
def ibAV : List AV → Option AV
  | [.str s, .int .u8 c] => some (.int .i64 (Lib.indexByte s c.toNat.toUInt8))
  | _ => none
def countAV : List AV → Option AV
  | [.str s, .int .u8 c] => some (.int .i64 (Lib.countByte s c.toNat.toUInt8))
  | _ => none
theorem vrels_two {ρ : Map} {x y : AV} {us : Array Value} (h : VRels ρ [x, y] us.toList) : ∃ u v, us = #[u, v] ∧ VRel ρ x u ∧ VRel ρ y v := by
  obtain ⟨u, r, h1, hu, h2⟩ := h
  obtain ⟨v, s, h3, hv, h4⟩ := h2
  have hs : s = [] := h4
  subst hs
  subst h3
  refine ⟨u, v, ?_, hu, hv⟩
  obtain ⟨l⟩ := us
  simp only at h1
  subst h1
  rfl
section
variable {P : Program} {f : FuncId} {fn : Func}
theorem says_cmp (h1 : P.funcs[f]? = some fn) (h2 : (fn.name == "runtime.NumGoroutine") = false) (h3 : fn.body.isNone = true) (h4 : Extern.findNext fn = none) (h5 : Extern.find fn = some Extern.BytealgCompare.compare) : ExtSays P f cmpAV := by
  refine ⟨fn, _, h1, h2, h3, h4, h5, fun args v hg ρ us w hr => ?_⟩
  unfold cmpAV at hg
  split at hg
  · rename_i a b
    injection hg with hg; subst hg
    obtain ⟨u, x, rfl, hu, hx⟩ := vrels_two hr
    cases hu; cases hx
    exact ⟨_, Lib.run_compareString _ _ w, rfl⟩
  · cases hg
theorem says_ib (h1 : P.funcs[f]? = some fn) (h2 : (fn.name == "runtime.NumGoroutine") = false) (h3 : fn.body.isNone = true) (h4 : Extern.findNext fn = none) (h5 : Extern.find fn = some Extern.BytealgIndexByte.indexByte) : ExtSays P f ibAV := by
  refine ⟨fn, _, h1, h2, h3, h4, h5, fun args v hg ρ us w hr => ?_⟩
  unfold ibAV at hg
  split at hg
  · rename_i a b
    injection hg with hg; subst hg
    obtain ⟨u, x, rfl, hu, hx⟩ := vrels_two hr
    cases hu; cases hx
    exact ⟨_, Lib.run_indexByteString _ _ w, rfl⟩
  · cases hg
theorem says_count (h1 : P.funcs[f]? = some fn) (h2 : (fn.name == "runtime.NumGoroutine") = false) (h3 : fn.body.isNone = true) (h4 : Extern.findNext fn = none) (h5 : Extern.find fn = some Extern.BytealgCount.count) : ExtSays P f countAV := by
  refine ⟨fn, _, h1, h2, h3, h4, h5, fun args v hg ρ us w hr => ?_⟩
  unfold countAV at hg
  split at hg
  · rename_i a b
    injection hg with hg; subst hg
    obtain ⟨u, x, rfl, hu, hx⟩ := vrels_two hr
    cases hu; cases hx
    exact ⟨_, Lib.run_countString _ _ w, rfl⟩
  · cases hg
end
end Go.Abs
