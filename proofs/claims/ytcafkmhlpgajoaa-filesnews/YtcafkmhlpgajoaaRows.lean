/-
  No cell of these rows narrows 'for every input' (looked for: loops, veiled, ifaces, maps, wideKeys, modest, calm, conditions, laid).
  DERIVED. THE GIVEN ROWS OF THIS SEAT. 4 by the template 'for every input the law returns true; each argument reads behind the call as it read before'; 0 by the template 'total and deterministic' (their statements: YtcafkmhlpgajoaaTotals.lean).
  GIVEN WITH THE SEED: the statements are not yours to turn. If you find one false, say at which input.
  Laid BY PROGRAM, IN A SANDBOX (cutbox-rows.mjs): the forced cells as the released guide's own fill.sh prints them over the translation f66d13579a12955a… (all of the seat's roots in one cut). By AI agents, Wed Nov 11 2026. No macro, syntax, notation, axiom, sorry.
-/
import Derived.Test.YtcafkmhlpgajoaaChecked
import GoSem.Claim
import GoSem.ClaimJoined
import GoSem.ClaimMapViews
import Derived.JoinedTies
import Derived.KernelRfl
namespace Go.Proofs.Ytcafkmhlpgajoaa
/- THE CELL 'sum', in the pinned program and in every row, IS THE sha256 OF THE DUMP (.gsa) THAT YtcafkmhlpgajoaaProg.lean LOADS. Nothing in Lean hashes anything: it is a label: what it is worth is what the hold of that sum in a sandbox is worth. -/
noncomputable def Try.pinned : Pinned := { name := "ytcafkmhlpgajoaa", sum := "f66d13579a12955a7b10d7c9f75d6ef8d33f5db88c546c05ad7da664f8dcc3fe", checked := Try.checked }
namespace Rows
def none {H : Type} : Left H := { results := [], args := [] }

/-- 'purlieulaw12.FilesFull': WHATEVER THE INPUT: true; the input reads as it did. -/
def filesFullSpec : ChangeSpec := { name := "filesFull", fn := fun _ => fun
  | [d1, d2] => { results := [.lit (.bool true)], args := [d1, d2] }
  | _ => none }
def filesFullRow : OpenClaim := { program := "ytcafkmhlpgajoaa", sum := "f66d13579a12955a7b10d7c9f75d6ef8d33f5db88c546c05ad7da664f8dcc3fe", func := "purlieu/purlieulaw12.FilesFull", spec := "filesFull", unfollowed := true, recurses := true, apart := false }
def FilesFullSaid : Prop := filesFullRow.holds Try.pinned (OpenSpec.ofChange filesFullSpec)

/-- ITS FALSE NEIGHBOUR: 'it returns false'. Refute it at one input. -/
def filesFullWrong : ChangeSpec := { name := "filesFull", fn := fun _ => fun
  | [d1, d2] => { results := [.lit (.bool false)], args := [d1, d2] }
  | _ => none }
def FilesFullWrongFalsely : Prop := filesFullRow.holds Try.pinned (OpenSpec.ofChange filesFullWrong)

/-- 'purlieulaw12.FilesCounts': WHATEVER THE INPUT: true; the input reads as it did. -/
def filesCountsSpec : ChangeSpec := { name := "filesCounts", fn := fun _ => fun
  | [d] => { results := [.lit (.bool true)], args := [d] }
  | _ => none }
def filesCountsRow : OpenClaim := { program := "ytcafkmhlpgajoaa", sum := "f66d13579a12955a7b10d7c9f75d6ef8d33f5db88c546c05ad7da664f8dcc3fe", func := "purlieu/purlieulaw12.FilesCounts", spec := "filesCounts", unfollowed := true, recurses := true, apart := false }
def FilesCountsSaid : Prop := filesCountsRow.holds Try.pinned (OpenSpec.ofChange filesCountsSpec)

/-- ITS FALSE NEIGHBOUR: 'it returns false'. Refute it at one input. -/
def filesCountsWrong : ChangeSpec := { name := "filesCounts", fn := fun _ => fun
  | [d] => { results := [.lit (.bool false)], args := [d] }
  | _ => none }
def FilesCountsWrongFalsely : Prop := filesCountsRow.holds Try.pinned (OpenSpec.ofChange filesCountsWrong)

/-- 'purlieulaw12.FilesActs': WHATEVER THE INPUT: true; the input reads as it did. -/
def filesActsSpec : ChangeSpec := { name := "filesActs", fn := fun _ => fun
  | [d1, d2, d3] => { results := [.lit (.bool true)], args := [d1, d2, d3] }
  | _ => none }
def filesActsRow : OpenClaim := { program := "ytcafkmhlpgajoaa", sum := "f66d13579a12955a7b10d7c9f75d6ef8d33f5db88c546c05ad7da664f8dcc3fe", func := "purlieu/purlieulaw12.FilesActs", spec := "filesActs", unfollowed := true, recurses := true, apart := false }
def FilesActsSaid : Prop := filesActsRow.holds Try.pinned (OpenSpec.ofChange filesActsSpec)

/-- ITS FALSE NEIGHBOUR: 'it returns false'. Refute it at one input. -/
def filesActsWrong : ChangeSpec := { name := "filesActs", fn := fun _ => fun
  | [d1, d2, d3] => { results := [.lit (.bool false)], args := [d1, d2, d3] }
  | _ => none }
def FilesActsWrongFalsely : Prop := filesActsRow.holds Try.pinned (OpenSpec.ofChange filesActsWrong)

/-- 'purlieulaw12.FilesNews': WHATEVER THE INPUT: true; the input reads as it did. -/
def filesNewsSpec : ChangeSpec := { name := "filesNews", fn := fun _ => fun
  | [d1, d2] => { results := [.lit (.bool true)], args := [d1, d2] }
  | _ => none }
def filesNewsRow : OpenClaim := { program := "ytcafkmhlpgajoaa", sum := "f66d13579a12955a7b10d7c9f75d6ef8d33f5db88c546c05ad7da664f8dcc3fe", func := "purlieu/purlieulaw12.FilesNews", spec := "filesNews", unfollowed := true, recurses := true, apart := false }
def FilesNewsSaid : Prop := filesNewsRow.holds Try.pinned (OpenSpec.ofChange filesNewsSpec)

/-- ITS FALSE NEIGHBOUR: 'it returns false'. Refute it at one input. -/
def filesNewsWrong : ChangeSpec := { name := "filesNews", fn := fun _ => fun
  | [d1, d2] => { results := [.lit (.bool false)], args := [d1, d2] }
  | _ => none }
def FilesNewsWrongFalsely : Prop := filesNewsRow.holds Try.pinned (OpenSpec.ofChange filesNewsWrong)

/- THE SECOND FORM. 'bulk': how many values and letters a reading holds, each counted each time it is reached (what is shared counts as often as it is met; a slice's spare places count too). A statement '..UptoSaid' is the law's where the arguments, and the package variables that the reading takes, are together of bulk at most 1048576: NARROWER than '..Said'. Prove '..Said' where nothing that the law and all that it calls make is longer than what came in: it says more and counts as full. Else prove '..UptoSaid'. A law counts once. -/
mutual
def uptoBulk {H : Type} : DataW H → Nat
  | .lit (.string bytes) => bytes.length + 1
  | .lit _ => 1
  | .nil => 1
  | .ptr d => uptoBulk d + 1
  | .slice elems spare => uptoBulkAll elems + uptoBulkAll spare + 1
  | .agg parts => uptoBulkAll parts + 1
  | .iface _ d => uptoBulk d + 1
  | .map entries => uptoBulkEntries entries + 1
  | .held _ => 1
def uptoBulkAll {H : Type} : List (DataW H) → Nat
  | [] => 0
  | d :: r => uptoBulk d + uptoBulkAll r
def uptoBulkEntries {H : Type} : List (Lit × DataW H) → Nat
  | [] => 0
  | x :: r => uptoBulkEntry x + uptoBulkEntries r
def uptoBulkEntry {H : Type} : Lit × DataW H → Nat
  | (.string bytes, d) => bytes.length + uptoBulk d + 1
  | (_, d) => uptoBulk d + 1
 end
def uptoSmall : (H : Type) → List (DataW H) → Bool := fun _ ds => decide (uptoBulkAll ds ≤ 1048576)
def OpenSpec.upto (s : _root_.Go.ChangeSpec) : _root_.Go.OpenSpec := { _root_.Go.OpenSpec.ofChange s with cond := some uptoSmall }

/-- 'purlieulaw12.FilesFull', WHERE WHAT IT READS IS OF BULK AT MOST 1048576: true; the input reads as it did. -/
def filesFullUptoRow : OpenClaim := { program := "ytcafkmhlpgajoaa", sum := "f66d13579a12955a7b10d7c9f75d6ef8d33f5db88c546c05ad7da664f8dcc3fe", func := "purlieu/purlieulaw12.FilesFull", spec := "filesFull", unfollowed := true, recurses := true, apart := false, narrowed := true }
def FilesFullUptoSaid : Prop := filesFullUptoRow.holds Try.pinned (OpenSpec.upto filesFullSpec)

/-- 'purlieulaw12.FilesCounts', WHERE WHAT IT READS IS OF BULK AT MOST 1048576: true; the input reads as it did. -/
def filesCountsUptoRow : OpenClaim := { program := "ytcafkmhlpgajoaa", sum := "f66d13579a12955a7b10d7c9f75d6ef8d33f5db88c546c05ad7da664f8dcc3fe", func := "purlieu/purlieulaw12.FilesCounts", spec := "filesCounts", unfollowed := true, recurses := true, apart := false, narrowed := true }
def FilesCountsUptoSaid : Prop := filesCountsUptoRow.holds Try.pinned (OpenSpec.upto filesCountsSpec)

/-- 'purlieulaw12.FilesActs', WHERE WHAT IT READS IS OF BULK AT MOST 1048576: true; the input reads as it did. -/
def filesActsUptoRow : OpenClaim := { program := "ytcafkmhlpgajoaa", sum := "f66d13579a12955a7b10d7c9f75d6ef8d33f5db88c546c05ad7da664f8dcc3fe", func := "purlieu/purlieulaw12.FilesActs", spec := "filesActs", unfollowed := true, recurses := true, apart := false, narrowed := true }
def FilesActsUptoSaid : Prop := filesActsUptoRow.holds Try.pinned (OpenSpec.upto filesActsSpec)

/-- 'purlieulaw12.FilesNews', WHERE WHAT IT READS IS OF BULK AT MOST 1048576: true; the input reads as it did. -/
def filesNewsUptoRow : OpenClaim := { program := "ytcafkmhlpgajoaa", sum := "f66d13579a12955a7b10d7c9f75d6ef8d33f5db88c546c05ad7da664f8dcc3fe", func := "purlieu/purlieulaw12.FilesNews", spec := "filesNews", unfollowed := true, recurses := true, apart := false, narrowed := true }
def FilesNewsUptoSaid : Prop := filesNewsUptoRow.holds Try.pinned (OpenSpec.upto filesNewsSpec)

end Rows
end Go.Proofs.Ytcafkmhlpgajoaa
