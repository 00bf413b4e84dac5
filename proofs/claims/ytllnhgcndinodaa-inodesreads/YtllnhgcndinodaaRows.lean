/-
  No cell of these rows narrows 'for every input' (looked for: loops, veiled, ifaces, maps, wideKeys, modest, calm, conditions, laid).
  DERIVED. THE GIVEN ROWS OF THIS SEAT. 4 by the template 'for every input the law returns true; each argument reads behind the call as it read before'; 0 by the template 'total and deterministic' (their statements: YtllnhgcndinodaaTotals.lean).
  GIVEN WITH THE SEED: the statements are not yours to turn. If you find one false, say at which input.
  Laid BY PROGRAM, IN A SANDBOX (cutbox-rows.mjs): the forced cells as the released guide's own fill.sh prints them over the translation a272910562eb6db2… (all of the seat's roots in one cut). By AI agents, Wed Nov 11 2026. No macro, syntax, notation, axiom, sorry.
-/
import Derived.Test.YtllnhgcndinodaaChecked
import GoSem.Claim
import GoSem.ClaimJoined
import GoSem.ClaimMapViews
import Derived.JoinedTies
import Derived.KernelRfl
namespace Go.Proofs.Ytllnhgcndinodaa
/- THE CELL 'sum', in the pinned program and in every row, IS THE sha256 OF THE DUMP (.gsa) THAT YtllnhgcndinodaaProg.lean LOADS. Nothing in Lean hashes anything: it is a label: what it is worth is what the hold of that sum in a sandbox is worth. -/
noncomputable def Try.pinned : Pinned := { name := "ytllnhgcndinodaa", sum := "a272910562eb6db222d4fef5834d5c62e1200e5ffabcf44c1fbb67605516980f", checked := Try.checked }
namespace Rows
def none {H : Type} : Left H := { results := [], args := [] }

/-- 'purlieulaw06.InodesRoom': WHATEVER THE INPUT: true; the input reads as it did. -/
def inodesRoomSpec : ChangeSpec := { name := "inodesRoom", fn := fun _ => fun
  | [d1, d2] => { results := [.lit (.bool true)], args := [d1, d2] }
  | _ => none }
def inodesRoomRow : OpenClaim := { program := "ytllnhgcndinodaa", sum := "a272910562eb6db222d4fef5834d5c62e1200e5ffabcf44c1fbb67605516980f", func := "purlieu/purlieulaw06.InodesRoom", spec := "inodesRoom", inPlace := ["internal/bytealg.IndexByteString"], unfollowed := true, recurses := true, apart := false }
def InodesRoomSaid : Prop := inodesRoomRow.holds Try.pinned (OpenSpec.ofChange inodesRoomSpec)

/-- ITS FALSE NEIGHBOUR: 'it returns false'. Refute it at one input. -/
def inodesRoomWrong : ChangeSpec := { name := "inodesRoom", fn := fun _ => fun
  | [d1, d2] => { results := [.lit (.bool false)], args := [d1, d2] }
  | _ => none }
def InodesRoomWrongFalsely : Prop := inodesRoomRow.holds Try.pinned (OpenSpec.ofChange inodesRoomWrong)

/-- 'purlieulaw06.InodesActs': WHATEVER THE INPUT: true; the input reads as it did. -/
def inodesActsSpec : ChangeSpec := { name := "inodesActs", fn := fun _ => fun
  | [d1, d2] => { results := [.lit (.bool true)], args := [d1, d2] }
  | _ => none }
def inodesActsRow : OpenClaim := { program := "ytllnhgcndinodaa", sum := "a272910562eb6db222d4fef5834d5c62e1200e5ffabcf44c1fbb67605516980f", func := "purlieu/purlieulaw06.InodesActs", spec := "inodesActs", inPlace := ["internal/bytealg.IndexByteString"], unfollowed := true, recurses := true, apart := false }
def InodesActsSaid : Prop := inodesActsRow.holds Try.pinned (OpenSpec.ofChange inodesActsSpec)

/-- ITS FALSE NEIGHBOUR: 'it returns false'. Refute it at one input. -/
def inodesActsWrong : ChangeSpec := { name := "inodesActs", fn := fun _ => fun
  | [d1, d2] => { results := [.lit (.bool false)], args := [d1, d2] }
  | _ => none }
def InodesActsWrongFalsely : Prop := inodesActsRow.holds Try.pinned (OpenSpec.ofChange inodesActsWrong)

/-- 'purlieulaw06.InodesReads': WHATEVER THE INPUT: true; the input reads as it did. -/
def inodesReadsSpec : ChangeSpec := { name := "inodesReads", fn := fun _ => fun
  | [d1, d2, d3] => { results := [.lit (.bool true)], args := [d1, d2, d3] }
  | _ => none }
def inodesReadsRow : OpenClaim := { program := "ytllnhgcndinodaa", sum := "a272910562eb6db222d4fef5834d5c62e1200e5ffabcf44c1fbb67605516980f", func := "purlieu/purlieulaw06.InodesReads", spec := "inodesReads", inPlace := ["internal/bytealg.IndexByteString"], unfollowed := true, recurses := true, apart := false }
def InodesReadsSaid : Prop := inodesReadsRow.holds Try.pinned (OpenSpec.ofChange inodesReadsSpec)

/-- ITS FALSE NEIGHBOUR: 'it returns false'. Refute it at one input. -/
def inodesReadsWrong : ChangeSpec := { name := "inodesReads", fn := fun _ => fun
  | [d1, d2, d3] => { results := [.lit (.bool false)], args := [d1, d2, d3] }
  | _ => none }
def InodesReadsWrongFalsely : Prop := inodesReadsRow.holds Try.pinned (OpenSpec.ofChange inodesReadsWrong)

/-- 'purlieulaw06.InodesNews': WHATEVER THE INPUT: true; the input reads as it did. -/
def inodesNewsSpec : ChangeSpec := { name := "inodesNews", fn := fun _ => fun
  | [d1, d2, d3] => { results := [.lit (.bool true)], args := [d1, d2, d3] }
  | _ => none }
def inodesNewsRow : OpenClaim := { program := "ytllnhgcndinodaa", sum := "a272910562eb6db222d4fef5834d5c62e1200e5ffabcf44c1fbb67605516980f", func := "purlieu/purlieulaw06.InodesNews", spec := "inodesNews", inPlace := ["internal/bytealg.IndexByteString"], unfollowed := true, recurses := true, apart := false }
def InodesNewsSaid : Prop := inodesNewsRow.holds Try.pinned (OpenSpec.ofChange inodesNewsSpec)

/-- ITS FALSE NEIGHBOUR: 'it returns false'. Refute it at one input. -/
def inodesNewsWrong : ChangeSpec := { name := "inodesNews", fn := fun _ => fun
  | [d1, d2, d3] => { results := [.lit (.bool false)], args := [d1, d2, d3] }
  | _ => none }
def InodesNewsWrongFalsely : Prop := inodesNewsRow.holds Try.pinned (OpenSpec.ofChange inodesNewsWrong)

/- THE SECOND FORM. 'bulk': how many values and letters a reading holds, each counted each time it is reached (what is shared counts as often as it is met; a slice's spare places count too). A statement '..UptoSaid' is the law's where the arguments, and the package variables that the reading takes, are together of bulk at most 1048576: NARROWER than '..Said'. Prove '..Said' where nothing that the law and all that it calls make is longer than what came in: it says more and counts as full. Else prove '..UptoSaid'. A law counts once. -/
mutual
def uptoBulk {H : Type} : DataW H → Nat
  | .lit (.string bytes) => bytes.length + 1
  | .lit _ => 1
  | .nil => 1
  | .ptr d => uptoBulk d + 1
  | .slice elems spare => uptoBulkAll elems + uptoBulkAll spare + 1
  | .agg parts => uptoBulkAll parts + 1
  | .iface _ d => uptoBulk d + 1
  | .map entries => uptoBulkEntries entries + 1
  | .held _ => 1
def uptoBulkAll {H : Type} : List (DataW H) → Nat
  | [] => 0
  | d :: r => uptoBulk d + uptoBulkAll r
def uptoBulkEntries {H : Type} : List (Lit × DataW H) → Nat
  | [] => 0
  | x :: r => uptoBulkEntry x + uptoBulkEntries r
def uptoBulkEntry {H : Type} : Lit × DataW H → Nat
  | (.string bytes, d) => bytes.length + uptoBulk d + 1
  | (_, d) => uptoBulk d + 1
 end
def uptoSmall : (H : Type) → List (DataW H) → Bool := fun _ ds => decide (uptoBulkAll ds ≤ 1048576)
def OpenSpec.upto (s : _root_.Go.ChangeSpec) : _root_.Go.OpenSpec := { _root_.Go.OpenSpec.ofChange s with cond := some uptoSmall }

/-- 'purlieulaw06.InodesRoom', WHERE WHAT IT READS IS OF BULK AT MOST 1048576: true; the input reads as it did. -/
def inodesRoomUptoRow : OpenClaim := { program := "ytllnhgcndinodaa", sum := "a272910562eb6db222d4fef5834d5c62e1200e5ffabcf44c1fbb67605516980f", func := "purlieu/purlieulaw06.InodesRoom", spec := "inodesRoom", inPlace := ["internal/bytealg.IndexByteString"], unfollowed := true, recurses := true, apart := false, narrowed := true }
def InodesRoomUptoSaid : Prop := inodesRoomUptoRow.holds Try.pinned (OpenSpec.upto inodesRoomSpec)

/-- 'purlieulaw06.InodesActs', WHERE WHAT IT READS IS OF BULK AT MOST 1048576: true; the input reads as it did. -/
def inodesActsUptoRow : OpenClaim := { program := "ytllnhgcndinodaa", sum := "a272910562eb6db222d4fef5834d5c62e1200e5ffabcf44c1fbb67605516980f", func := "purlieu/purlieulaw06.InodesActs", spec := "inodesActs", inPlace := ["internal/bytealg.IndexByteString"], unfollowed := true, recurses := true, apart := false, narrowed := true }
def InodesActsUptoSaid : Prop := inodesActsUptoRow.holds Try.pinned (OpenSpec.upto inodesActsSpec)

/-- 'purlieulaw06.InodesReads', WHERE WHAT IT READS IS OF BULK AT MOST 1048576: true; the input reads as it did. -/
def inodesReadsUptoRow : OpenClaim := { program := "ytllnhgcndinodaa", sum := "a272910562eb6db222d4fef5834d5c62e1200e5ffabcf44c1fbb67605516980f", func := "purlieu/purlieulaw06.InodesReads", spec := "inodesReads", inPlace := ["internal/bytealg.IndexByteString"], unfollowed := true, recurses := true, apart := false, narrowed := true }
def InodesReadsUptoSaid : Prop := inodesReadsUptoRow.holds Try.pinned (OpenSpec.upto inodesReadsSpec)

/-- 'purlieulaw06.InodesNews', WHERE WHAT IT READS IS OF BULK AT MOST 1048576: true; the input reads as it did. -/
def inodesNewsUptoRow : OpenClaim := { program := "ytllnhgcndinodaa", sum := "a272910562eb6db222d4fef5834d5c62e1200e5ffabcf44c1fbb67605516980f", func := "purlieu/purlieulaw06.InodesNews", spec := "inodesNews", inPlace := ["internal/bytealg.IndexByteString"], unfollowed := true, recurses := true, apart := false, narrowed := true }
def InodesNewsUptoSaid : Prop := inodesNewsUptoRow.holds Try.pinned (OpenSpec.upto inodesNewsSpec)

end Rows
end Go.Proofs.Ytllnhgcndinodaa
