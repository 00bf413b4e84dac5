/-
  No cell of these rows narrows 'for every input' (looked for: loops, veiled, ifaces, maps, wideKeys, modest, calm, conditions, laid).
  DERIVED. THE GIVEN ROWS OF THIS SEAT. 4 by the template 'for every input the law returns true; each argument reads behind the call as it read before'; 0 by the template 'total and deterministic' (their statements: YtpcchlcbmhmopaaTotals.lean).
  GIVEN WITH THE SEED: the statements are not yours to turn. If you find one false, say at which input.
  Laid BY PROGRAM, IN A SANDBOX (cutbox-rows.mjs): the forced cells as the released guide's own fill.sh prints them over the translation 42298e8360ed3f50… (all of the seat's roots in one cut). By AI agents, Wed Nov 11 2026. No macro, syntax, notation, axiom, sorry.
-/
import Derived.Test.YtpcchlcbmhmopaaChecked
import GoSem.Claim
import GoSem.ClaimJoined
import GoSem.ClaimMapViews
import Derived.JoinedTies
import Derived.KernelRfl
namespace Go.Proofs.Ytpcchlcbmhmopaa
/- THE CELL 'sum', in the pinned program and in every row, IS THE sha256 OF THE DUMP (.gsa) THAT YtpcchlcbmhmopaaProg.lean LOADS. Nothing in Lean hashes anything: it is a label: what it is worth is what the hold of that sum in a sandbox is worth. -/
noncomputable def Try.pinned : Pinned := { name := "ytpcchlcbmhmopaa", sum := "42298e8360ed3f507ade223068dc4de9c5a2fb2b3206d870d429320015a8128f", checked := Try.checked }
namespace Rows
def none {H : Type} : Left H := { results := [], args := [] }

/-- 'purlieulaw04.SparseReads': WHATEVER THE INPUT: true; the input reads as it did. -/
def sparseReadsSpec : ChangeSpec := { name := "sparseReads", fn := fun _ => fun
  | [d1, d2, d3] => { results := [.lit (.bool true)], args := [d1, d2, d3] }
  | _ => none }
def sparseReadsRow : OpenClaim := { program := "ytpcchlcbmhmopaa", sum := "42298e8360ed3f507ade223068dc4de9c5a2fb2b3206d870d429320015a8128f", func := "purlieu/purlieulaw04.SparseReads", spec := "sparseReads", apart := false }
def SparseReadsSaid : Prop := sparseReadsRow.holds Try.pinned (OpenSpec.ofChange sparseReadsSpec)

/-- ITS FALSE NEIGHBOUR: 'it returns false'. Refute it at one input. -/
def sparseReadsWrong : ChangeSpec := { name := "sparseReads", fn := fun _ => fun
  | [d1, d2, d3] => { results := [.lit (.bool false)], args := [d1, d2, d3] }
  | _ => none }
def SparseReadsWrongFalsely : Prop := sparseReadsRow.holds Try.pinned (OpenSpec.ofChange sparseReadsWrong)

/-- 'purlieulaw04.SparseActs': WHATEVER THE INPUT: true; the input reads as it did. -/
def sparseActsSpec : ChangeSpec := { name := "sparseActs", fn := fun _ => fun
  | [d] => { results := [.lit (.bool true)], args := [d] }
  | _ => none }
def sparseActsRow : OpenClaim := { program := "ytpcchlcbmhmopaa", sum := "42298e8360ed3f507ade223068dc4de9c5a2fb2b3206d870d429320015a8128f", func := "purlieu/purlieulaw04.SparseActs", spec := "sparseActs", apart := false }
def SparseActsSaid : Prop := sparseActsRow.holds Try.pinned (OpenSpec.ofChange sparseActsSpec)

/-- ITS FALSE NEIGHBOUR: 'it returns false'. Refute it at one input. -/
def sparseActsWrong : ChangeSpec := { name := "sparseActs", fn := fun _ => fun
  | [d] => { results := [.lit (.bool false)], args := [d] }
  | _ => none }
def SparseActsWrongFalsely : Prop := sparseActsRow.holds Try.pinned (OpenSpec.ofChange sparseActsWrong)

/-- 'purlieulaw04.SparseBlocks': WHATEVER THE INPUT: true; the input reads as it did. -/
def sparseBlocksSpec : ChangeSpec := { name := "sparseBlocks", fn := fun _ => fun
  | [d] => { results := [.lit (.bool true)], args := [d] }
  | _ => none }
def sparseBlocksRow : OpenClaim := { program := "ytpcchlcbmhmopaa", sum := "42298e8360ed3f507ade223068dc4de9c5a2fb2b3206d870d429320015a8128f", func := "purlieu/purlieulaw04.SparseBlocks", spec := "sparseBlocks", apart := false }
def SparseBlocksSaid : Prop := sparseBlocksRow.holds Try.pinned (OpenSpec.ofChange sparseBlocksSpec)

/-- ITS FALSE NEIGHBOUR: 'it returns false'. Refute it at one input. -/
def sparseBlocksWrong : ChangeSpec := { name := "sparseBlocks", fn := fun _ => fun
  | [d] => { results := [.lit (.bool false)], args := [d] }
  | _ => none }
def SparseBlocksWrongFalsely : Prop := sparseBlocksRow.holds Try.pinned (OpenSpec.ofChange sparseBlocksWrong)

/-- 'purlieulaw04.SparseNil': WHATEVER THE INPUT: true; the input reads as it did. -/
def sparseNilSpec : ChangeSpec := { name := "sparseNil", fn := fun _ => fun
  | [d1, d2, d3] => { results := [.lit (.bool true)], args := [d1, d2, d3] }
  | _ => none }
def sparseNilRow : OpenClaim := { program := "ytpcchlcbmhmopaa", sum := "42298e8360ed3f507ade223068dc4de9c5a2fb2b3206d870d429320015a8128f", func := "purlieu/purlieulaw04.SparseNil", spec := "sparseNil", apart := false }
def SparseNilSaid : Prop := sparseNilRow.holds Try.pinned (OpenSpec.ofChange sparseNilSpec)

/-- ITS FALSE NEIGHBOUR: 'it returns false'. Refute it at one input. -/
def sparseNilWrong : ChangeSpec := { name := "sparseNil", fn := fun _ => fun
  | [d1, d2, d3] => { results := [.lit (.bool false)], args := [d1, d2, d3] }
  | _ => none }
def SparseNilWrongFalsely : Prop := sparseNilRow.holds Try.pinned (OpenSpec.ofChange sparseNilWrong)

/- THE SECOND FORM. 'bulk': how many values and letters a reading holds, each counted each time it is reached (what is shared counts as often as it is met; a slice's spare places count too). A statement '..UptoSaid' is the law's where the arguments, and the package variables that the reading takes, are together of bulk at most 1048576: NARROWER than '..Said'. Prove '..Said' where nothing that the law and all that it calls make is longer than what came in: it says more and counts as full. Else prove '..UptoSaid'. A law counts once. -/
mutual
def uptoBulk {H : Type} : DataW H → Nat
  | .lit (.string bytes) => bytes.length + 1
  | .lit _ => 1
  | .nil => 1
  | .ptr d => uptoBulk d + 1
  | .slice elems spare => uptoBulkAll elems + uptoBulkAll spare + 1
  | .agg parts => uptoBulkAll parts + 1
  | .iface _ d => uptoBulk d + 1
  | .map entries => uptoBulkEntries entries + 1
  | .held _ => 1
def uptoBulkAll {H : Type} : List (DataW H) → Nat
  | [] => 0
  | d :: r => uptoBulk d + uptoBulkAll r
def uptoBulkEntries {H : Type} : List (Lit × DataW H) → Nat
  | [] => 0
  | x :: r => uptoBulkEntry x + uptoBulkEntries r
def uptoBulkEntry {H : Type} : Lit × DataW H → Nat
  | (.string bytes, d) => bytes.length + uptoBulk d + 1
  | (_, d) => uptoBulk d + 1
 end
def uptoSmall : (H : Type) → List (DataW H) → Bool := fun _ ds => decide (uptoBulkAll ds ≤ 1048576)
def OpenSpec.upto (s : _root_.Go.ChangeSpec) : _root_.Go.OpenSpec := { _root_.Go.OpenSpec.ofChange s with cond := some uptoSmall }

/-- 'purlieulaw04.SparseReads', WHERE WHAT IT READS IS OF BULK AT MOST 1048576: true; the input reads as it did. -/
def sparseReadsUptoRow : OpenClaim := { program := "ytpcchlcbmhmopaa", sum := "42298e8360ed3f507ade223068dc4de9c5a2fb2b3206d870d429320015a8128f", func := "purlieu/purlieulaw04.SparseReads", spec := "sparseReads", apart := false, narrowed := true }
def SparseReadsUptoSaid : Prop := sparseReadsUptoRow.holds Try.pinned (OpenSpec.upto sparseReadsSpec)

/-- 'purlieulaw04.SparseActs', WHERE WHAT IT READS IS OF BULK AT MOST 1048576: true; the input reads as it did. -/
def sparseActsUptoRow : OpenClaim := { program := "ytpcchlcbmhmopaa", sum := "42298e8360ed3f507ade223068dc4de9c5a2fb2b3206d870d429320015a8128f", func := "purlieu/purlieulaw04.SparseActs", spec := "sparseActs", apart := false, narrowed := true }
def SparseActsUptoSaid : Prop := sparseActsUptoRow.holds Try.pinned (OpenSpec.upto sparseActsSpec)

/-- 'purlieulaw04.SparseBlocks', WHERE WHAT IT READS IS OF BULK AT MOST 1048576: true; the input reads as it did. -/
def sparseBlocksUptoRow : OpenClaim := { program := "ytpcchlcbmhmopaa", sum := "42298e8360ed3f507ade223068dc4de9c5a2fb2b3206d870d429320015a8128f", func := "purlieu/purlieulaw04.SparseBlocks", spec := "sparseBlocks", apart := false, narrowed := true }
def SparseBlocksUptoSaid : Prop := sparseBlocksUptoRow.holds Try.pinned (OpenSpec.upto sparseBlocksSpec)

/-- 'purlieulaw04.SparseNil', WHERE WHAT IT READS IS OF BULK AT MOST 1048576: true; the input reads as it did. -/
def sparseNilUptoRow : OpenClaim := { program := "ytpcchlcbmhmopaa", sum := "42298e8360ed3f507ade223068dc4de9c5a2fb2b3206d870d429320015a8128f", func := "purlieu/purlieulaw04.SparseNil", spec := "sparseNil", apart := false, narrowed := true }
def SparseNilUptoSaid : Prop := sparseNilUptoRow.holds Try.pinned (OpenSpec.upto sparseNilSpec)

end Rows
end Go.Proofs.Ytpcchlcbmhmopaa
