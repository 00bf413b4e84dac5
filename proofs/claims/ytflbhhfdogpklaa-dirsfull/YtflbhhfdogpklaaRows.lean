/-
  No cell of these rows narrows 'for every input' (looked for: loops, veiled, ifaces, maps, wideKeys, modest, calm, conditions, laid).
  DERIVED. THE GIVEN ROWS OF THIS SEAT. 4 by the template 'for every input the law returns true; each argument reads behind the call as it read before'; 0 by the template 'total and deterministic' (their statements: YtflbhhfdogpklaaTotals.lean).
  GIVEN WITH THE SEED: the statements are not yours to turn. If you find one false, say at which input.
  Laid BY PROGRAM, IN A SANDBOX (cutbox-rows.mjs): the forced cells as the released guide's own fill.sh prints them over the translation 7e5485449c569b3b… (all of the seat's roots in one cut). By AI agents, Wed Nov 11 2026. No macro, syntax, notation, axiom, sorry.
-/
import Derived.Test.YtflbhhfdogpklaaChecked
import GoSem.Claim
import GoSem.ClaimJoined
import GoSem.ClaimMapViews
import Derived.JoinedTies
import Derived.KernelRfl
namespace Go.Proofs.Ytflbhhfdogpklaa
/- THE CELL 'sum', in the pinned program and in every row, IS THE sha256 OF THE DUMP (.gsa) THAT YtflbhhfdogpklaaProg.lean LOADS. Nothing in Lean hashes anything: it is a label: what it is worth is what the hold of that sum in a sandbox is worth. -/
noncomputable def Try.pinned : Pinned := { name := "ytflbhhfdogpklaa", sum := "7e5485449c569b3bd4fbc398fd9f8d7d96e7d52adbc827d20512ee3ac305406e", checked := Try.checked }
namespace Rows
def none {H : Type} : Left H := { results := [], args := [] }

/-- 'purlieulaw05.DirsFull': WHATEVER THE INPUT: true; the input reads as it did. -/
def dirsFullSpec : ChangeSpec := { name := "dirsFull", fn := fun _ => fun
  | [d1, d2] => { results := [.lit (.bool true)], args := [d1, d2] }
  | _ => none }
def dirsFullRow : OpenClaim := { program := "ytflbhhfdogpklaa", sum := "7e5485449c569b3bd4fbc398fd9f8d7d96e7d52adbc827d20512ee3ac305406e", func := "purlieu/purlieulaw05.DirsFull", spec := "dirsFull", inPlace := ["internal/bytealg.IndexByteString", "internal/bytealg.IndexString", "internal/bytealg.abigen_runtime_cmpstring", "slices.overlaps[purlieu/dirs.entry]"], unfollowed := true, recurses := true, named := ["internal/bytealg.MaxLen"], apart := false }
def DirsFullSaid : Prop := dirsFullRow.holds Try.pinned (OpenSpec.ofChange dirsFullSpec)

/-- ITS FALSE NEIGHBOUR: 'it returns false'. Refute it at one input. -/
def dirsFullWrong : ChangeSpec := { name := "dirsFull", fn := fun _ => fun
  | [d1, d2] => { results := [.lit (.bool false)], args := [d1, d2] }
  | _ => none }
def DirsFullWrongFalsely : Prop := dirsFullRow.holds Try.pinned (OpenSpec.ofChange dirsFullWrong)

/-- 'purlieulaw05.DirsPages': WHATEVER THE INPUT: true; the input reads as it did. -/
def dirsPagesSpec : ChangeSpec := { name := "dirsPages", fn := fun _ => fun
  | [d1, d2, d3] => { results := [.lit (.bool true)], args := [d1, d2, d3] }
  | _ => none }
def dirsPagesRow : OpenClaim := { program := "ytflbhhfdogpklaa", sum := "7e5485449c569b3bd4fbc398fd9f8d7d96e7d52adbc827d20512ee3ac305406e", func := "purlieu/purlieulaw05.DirsPages", spec := "dirsPages", inPlace := ["internal/bytealg.abigen_runtime_cmpstring", "internal/bytealg.IndexByteString", "internal/bytealg.IndexString", "slices.overlaps[purlieu/dirs.entry]"], unfollowed := true, recurses := true, named := ["internal/bytealg.MaxLen"], apart := false }
def DirsPagesSaid : Prop := dirsPagesRow.holds Try.pinned (OpenSpec.ofChange dirsPagesSpec)

/-- ITS FALSE NEIGHBOUR: 'it returns false'. Refute it at one input. -/
def dirsPagesWrong : ChangeSpec := { name := "dirsPages", fn := fun _ => fun
  | [d1, d2, d3] => { results := [.lit (.bool false)], args := [d1, d2, d3] }
  | _ => none }
def DirsPagesWrongFalsely : Prop := dirsPagesRow.holds Try.pinned (OpenSpec.ofChange dirsPagesWrong)

/-- 'purlieulaw05.DirsActs': WHATEVER THE INPUT: true; the input reads as it did. -/
def dirsActsSpec : ChangeSpec := { name := "dirsActs", fn := fun _ => fun
  | [d1, d2] => { results := [.lit (.bool true)], args := [d1, d2] }
  | _ => none }
def dirsActsRow : OpenClaim := { program := "ytflbhhfdogpklaa", sum := "7e5485449c569b3bd4fbc398fd9f8d7d96e7d52adbc827d20512ee3ac305406e", func := "purlieu/purlieulaw05.DirsActs", spec := "dirsActs", inPlace := ["internal/bytealg.abigen_runtime_cmpstring", "internal/bytealg.IndexByteString", "internal/bytealg.IndexString", "slices.overlaps[purlieu/dirs.entry]"], unfollowed := true, recurses := true, named := ["internal/bytealg.MaxLen"], apart := false }
def DirsActsSaid : Prop := dirsActsRow.holds Try.pinned (OpenSpec.ofChange dirsActsSpec)

/-- ITS FALSE NEIGHBOUR: 'it returns false'. Refute it at one input. -/
def dirsActsWrong : ChangeSpec := { name := "dirsActs", fn := fun _ => fun
  | [d1, d2] => { results := [.lit (.bool false)], args := [d1, d2] }
  | _ => none }
def DirsActsWrongFalsely : Prop := dirsActsRow.holds Try.pinned (OpenSpec.ofChange dirsActsWrong)

/-- 'purlieulaw05.DirsNil': WHATEVER THE INPUT: true; the input reads as it did. -/
def dirsNilSpec : ChangeSpec := { name := "dirsNil", fn := fun _ => fun
  | [d1, d2, d3] => { results := [.lit (.bool true)], args := [d1, d2, d3] }
  | _ => none }
def dirsNilRow : OpenClaim := { program := "ytflbhhfdogpklaa", sum := "7e5485449c569b3bd4fbc398fd9f8d7d96e7d52adbc827d20512ee3ac305406e", func := "purlieu/purlieulaw05.DirsNil", spec := "dirsNil", inPlace := ["internal/bytealg.abigen_runtime_cmpstring", "internal/bytealg.IndexByteString", "internal/bytealg.IndexString", "slices.overlaps[purlieu/dirs.entry]"], unfollowed := true, recurses := true, named := ["internal/bytealg.MaxLen"], apart := false }
def DirsNilSaid : Prop := dirsNilRow.holds Try.pinned (OpenSpec.ofChange dirsNilSpec)

/-- ITS FALSE NEIGHBOUR: 'it returns false'. Refute it at one input. -/
def dirsNilWrong : ChangeSpec := { name := "dirsNil", fn := fun _ => fun
  | [d1, d2, d3] => { results := [.lit (.bool false)], args := [d1, d2, d3] }
  | _ => none }
def DirsNilWrongFalsely : Prop := dirsNilRow.holds Try.pinned (OpenSpec.ofChange dirsNilWrong)

/- THE SECOND FORM. 'bulk': how many values and letters a reading holds, each counted each time it is reached (what is shared counts as often as it is met; a slice's spare places count too). A statement '..UptoSaid' is the law's where the arguments, and the package variables that the reading takes, are together of bulk at most 1048576: NARROWER than '..Said'. Prove '..Said' where nothing that the law and all that it calls make is longer than what came in: it says more and counts as full. Else prove '..UptoSaid'. A law counts once. -/
mutual
def uptoBulk {H : Type} : DataW H → Nat
  | .lit (.string bytes) => bytes.length + 1
  | .lit _ => 1
  | .nil => 1
  | .ptr d => uptoBulk d + 1
  | .slice elems spare => uptoBulkAll elems + uptoBulkAll spare + 1
  | .agg parts => uptoBulkAll parts + 1
  | .iface _ d => uptoBulk d + 1
  | .map entries => uptoBulkEntries entries + 1
  | .held _ => 1
def uptoBulkAll {H : Type} : List (DataW H) → Nat
  | [] => 0
  | d :: r => uptoBulk d + uptoBulkAll r
def uptoBulkEntries {H : Type} : List (Lit × DataW H) → Nat
  | [] => 0
  | x :: r => uptoBulkEntry x + uptoBulkEntries r
def uptoBulkEntry {H : Type} : Lit × DataW H → Nat
  | (.string bytes, d) => bytes.length + uptoBulk d + 1
  | (_, d) => uptoBulk d + 1
 end
def uptoSmall : (H : Type) → List (DataW H) → Bool := fun _ ds => decide (uptoBulkAll ds ≤ 1048576)
def OpenSpec.upto (s : _root_.Go.ChangeSpec) : _root_.Go.OpenSpec := { _root_.Go.OpenSpec.ofChange s with cond := some uptoSmall }

/-- 'purlieulaw05.DirsFull', WHERE WHAT IT READS IS OF BULK AT MOST 1048576: true; the input reads as it did. -/
def dirsFullUptoRow : OpenClaim := { program := "ytflbhhfdogpklaa", sum := "7e5485449c569b3bd4fbc398fd9f8d7d96e7d52adbc827d20512ee3ac305406e", func := "purlieu/purlieulaw05.DirsFull", spec := "dirsFull", inPlace := ["internal/bytealg.IndexByteString", "internal/bytealg.IndexString", "internal/bytealg.abigen_runtime_cmpstring", "slices.overlaps[purlieu/dirs.entry]"], unfollowed := true, recurses := true, named := ["internal/bytealg.MaxLen"], apart := false, narrowed := true }
def DirsFullUptoSaid : Prop := dirsFullUptoRow.holds Try.pinned (OpenSpec.upto dirsFullSpec)

/-- 'purlieulaw05.DirsPages', WHERE WHAT IT READS IS OF BULK AT MOST 1048576: true; the input reads as it did. -/
def dirsPagesUptoRow : OpenClaim := { program := "ytflbhhfdogpklaa", sum := "7e5485449c569b3bd4fbc398fd9f8d7d96e7d52adbc827d20512ee3ac305406e", func := "purlieu/purlieulaw05.DirsPages", spec := "dirsPages", inPlace := ["internal/bytealg.abigen_runtime_cmpstring", "internal/bytealg.IndexByteString", "internal/bytealg.IndexString", "slices.overlaps[purlieu/dirs.entry]"], unfollowed := true, recurses := true, named := ["internal/bytealg.MaxLen"], apart := false, narrowed := true }
def DirsPagesUptoSaid : Prop := dirsPagesUptoRow.holds Try.pinned (OpenSpec.upto dirsPagesSpec)

/-- 'purlieulaw05.DirsActs', WHERE WHAT IT READS IS OF BULK AT MOST 1048576: true; the input reads as it did. -/
def dirsActsUptoRow : OpenClaim := { program := "ytflbhhfdogpklaa", sum := "7e5485449c569b3bd4fbc398fd9f8d7d96e7d52adbc827d20512ee3ac305406e", func := "purlieu/purlieulaw05.DirsActs", spec := "dirsActs", inPlace := ["internal/bytealg.abigen_runtime_cmpstring", "internal/bytealg.IndexByteString", "internal/bytealg.IndexString", "slices.overlaps[purlieu/dirs.entry]"], unfollowed := true, recurses := true, named := ["internal/bytealg.MaxLen"], apart := false, narrowed := true }
def DirsActsUptoSaid : Prop := dirsActsUptoRow.holds Try.pinned (OpenSpec.upto dirsActsSpec)

/-- 'purlieulaw05.DirsNil', WHERE WHAT IT READS IS OF BULK AT MOST 1048576: true; the input reads as it did. -/
def dirsNilUptoRow : OpenClaim := { program := "ytflbhhfdogpklaa", sum := "7e5485449c569b3bd4fbc398fd9f8d7d96e7d52adbc827d20512ee3ac305406e", func := "purlieu/purlieulaw05.DirsNil", spec := "dirsNil", inPlace := ["internal/bytealg.abigen_runtime_cmpstring", "internal/bytealg.IndexByteString", "internal/bytealg.IndexString", "slices.overlaps[purlieu/dirs.entry]"], unfollowed := true, recurses := true, named := ["internal/bytealg.MaxLen"], apart := false, narrowed := true }
def DirsNilUptoSaid : Prop := dirsNilUptoRow.holds Try.pinned (OpenSpec.upto dirsNilSpec)

end Rows
end Go.Proofs.Ytflbhhfdogpklaa
