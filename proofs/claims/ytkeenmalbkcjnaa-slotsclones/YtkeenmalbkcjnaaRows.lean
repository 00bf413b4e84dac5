/-
  No cell of these rows narrows 'for every input' (looked for: loops, veiled, ifaces, maps, wideKeys, modest, calm, conditions, laid).
  DERIVED. THE GIVEN ROWS OF THIS SEAT. 5 by the template 'for every input the law returns true; each argument reads behind the call as it read before'; 0 by the template 'total and deterministic' (their statements: YtkeenmalbkcjnaaTotals.lean).
  GIVEN WITH THE SEED: the statements are not yours to turn. If you find one false, say at which input.
  Laid BY PROGRAM, IN A SANDBOX (cutbox-rows.mjs): the forced cells as the released guide's own fill.sh prints them over the translation 7e0db2860f8952b6… (all of the seat's roots in one cut). By AI agents, Wed Nov 11 2026. No macro, syntax, notation, axiom, sorry.
-/
import Derived.Test.YtkeenmalbkcjnaaChecked
import GoSem.Claim
import GoSem.ClaimJoined
import GoSem.ClaimMapViews
import Derived.JoinedTies
import Derived.KernelRfl
namespace Go.Proofs.Ytkeenmalbkcjnaa
/- THE CELL 'sum', in the pinned program and in every row, IS THE sha256 OF THE DUMP (.gsa) THAT YtkeenmalbkcjnaaProg.lean LOADS. Nothing in Lean hashes anything: it is a label: what it is worth is what the hold of that sum in a sandbox is worth. -/
noncomputable def Try.pinned : Pinned := { name := "ytkeenmalbkcjnaa", sum := "7e0db2860f8952b6d5dd9ac6fabd3549cd3587a526bc43bbf7b1b4cc08185713", checked := Try.checked }
namespace Rows
def none {H : Type} : Left H := { results := [], args := [] }

/-- 'purlieulaw13.SlotsLess': WHATEVER THE INPUT: true; the input reads as it did. -/
def slotsLessSpec : ChangeSpec := { name := "slotsLess", fn := fun _ => fun
  | [d1, d2] => { results := [.lit (.bool true)], args := [d1, d2] }
  | _ => none }
def slotsLessRow : OpenClaim := { program := "ytkeenmalbkcjnaa", sum := "7e0db2860f8952b6d5dd9ac6fabd3549cd3587a526bc43bbf7b1b4cc08185713", func := "purlieu/purlieulaw13.SlotsLess", spec := "slotsLess", unfollowed := true, recurses := true, apart := false }
def SlotsLessSaid : Prop := slotsLessRow.holds Try.pinned (OpenSpec.ofChange slotsLessSpec)

/-- ITS FALSE NEIGHBOUR: 'it returns false'. Refute it at one input. -/
def slotsLessWrong : ChangeSpec := { name := "slotsLess", fn := fun _ => fun
  | [d1, d2] => { results := [.lit (.bool false)], args := [d1, d2] }
  | _ => none }
def SlotsLessWrongFalsely : Prop := slotsLessRow.holds Try.pinned (OpenSpec.ofChange slotsLessWrong)

/-- 'purlieulaw13.SlotsGets': WHATEVER THE INPUT: true; the input reads as it did. -/
def slotsGetsSpec : ChangeSpec := { name := "slotsGets", fn := fun _ => fun
  | [d1, d2, d3] => { results := [.lit (.bool true)], args := [d1, d2, d3] }
  | _ => none }
def slotsGetsRow : OpenClaim := { program := "ytkeenmalbkcjnaa", sum := "7e0db2860f8952b6d5dd9ac6fabd3549cd3587a526bc43bbf7b1b4cc08185713", func := "purlieu/purlieulaw13.SlotsGets", spec := "slotsGets", unfollowed := true, recurses := true, apart := false }
def SlotsGetsSaid : Prop := slotsGetsRow.holds Try.pinned (OpenSpec.ofChange slotsGetsSpec)

/-- ITS FALSE NEIGHBOUR: 'it returns false'. Refute it at one input. -/
def slotsGetsWrong : ChangeSpec := { name := "slotsGets", fn := fun _ => fun
  | [d1, d2, d3] => { results := [.lit (.bool false)], args := [d1, d2, d3] }
  | _ => none }
def SlotsGetsWrongFalsely : Prop := slotsGetsRow.holds Try.pinned (OpenSpec.ofChange slotsGetsWrong)

/-- 'purlieulaw13.SlotsActs': WHATEVER THE INPUT: true; the input reads as it did. -/
def slotsActsSpec : ChangeSpec := { name := "slotsActs", fn := fun _ => fun
  | [d1, d2] => { results := [.lit (.bool true)], args := [d1, d2] }
  | _ => none }
def slotsActsRow : OpenClaim := { program := "ytkeenmalbkcjnaa", sum := "7e0db2860f8952b6d5dd9ac6fabd3549cd3587a526bc43bbf7b1b4cc08185713", func := "purlieu/purlieulaw13.SlotsActs", spec := "slotsActs", unfollowed := true, recurses := true, apart := false }
def SlotsActsSaid : Prop := slotsActsRow.holds Try.pinned (OpenSpec.ofChange slotsActsSpec)

/-- ITS FALSE NEIGHBOUR: 'it returns false'. Refute it at one input. -/
def slotsActsWrong : ChangeSpec := { name := "slotsActs", fn := fun _ => fun
  | [d1, d2] => { results := [.lit (.bool false)], args := [d1, d2] }
  | _ => none }
def SlotsActsWrongFalsely : Prop := slotsActsRow.holds Try.pinned (OpenSpec.ofChange slotsActsWrong)

/-- 'purlieulaw13.SlotsClones': WHATEVER THE INPUT: true; the input reads as it did. -/
def slotsClonesSpec : ChangeSpec := { name := "slotsClones", fn := fun _ => fun
  | [d1, d2] => { results := [.lit (.bool true)], args := [d1, d2] }
  | _ => none }
def slotsClonesRow : OpenClaim := { program := "ytkeenmalbkcjnaa", sum := "7e0db2860f8952b6d5dd9ac6fabd3549cd3587a526bc43bbf7b1b4cc08185713", func := "purlieu/purlieulaw13.SlotsClones", spec := "slotsClones", unfollowed := true, recurses := true, apart := false }
def SlotsClonesSaid : Prop := slotsClonesRow.holds Try.pinned (OpenSpec.ofChange slotsClonesSpec)

/-- ITS FALSE NEIGHBOUR: 'it returns false'. Refute it at one input. -/
def slotsClonesWrong : ChangeSpec := { name := "slotsClones", fn := fun _ => fun
  | [d1, d2] => { results := [.lit (.bool false)], args := [d1, d2] }
  | _ => none }
def SlotsClonesWrongFalsely : Prop := slotsClonesRow.holds Try.pinned (OpenSpec.ofChange slotsClonesWrong)

/-- 'purlieulaw13.SlotsNews': WHATEVER THE INPUT: true; the input reads as it did. -/
def slotsNewsSpec : ChangeSpec := { name := "slotsNews", fn := fun _ => fun
  | [d1, d2] => { results := [.lit (.bool true)], args := [d1, d2] }
  | _ => none }
def slotsNewsRow : OpenClaim := { program := "ytkeenmalbkcjnaa", sum := "7e0db2860f8952b6d5dd9ac6fabd3549cd3587a526bc43bbf7b1b4cc08185713", func := "purlieu/purlieulaw13.SlotsNews", spec := "slotsNews", unfollowed := true, recurses := true, apart := false }
def SlotsNewsSaid : Prop := slotsNewsRow.holds Try.pinned (OpenSpec.ofChange slotsNewsSpec)

/-- ITS FALSE NEIGHBOUR: 'it returns false'. Refute it at one input. -/
def slotsNewsWrong : ChangeSpec := { name := "slotsNews", fn := fun _ => fun
  | [d1, d2] => { results := [.lit (.bool false)], args := [d1, d2] }
  | _ => none }
def SlotsNewsWrongFalsely : Prop := slotsNewsRow.holds Try.pinned (OpenSpec.ofChange slotsNewsWrong)

/- THE SECOND FORM. 'bulk': how many values and letters a reading holds, each counted each time it is reached (what is shared counts as often as it is met; a slice's spare places count too). A statement '..UptoSaid' is the law's where the arguments, and the package variables that the reading takes, are together of bulk at most 1048576: NARROWER than '..Said'. Prove '..Said' where nothing that the law and all that it calls make is longer than what came in: it says more and counts as full. Else prove '..UptoSaid'. A law counts once. -/
mutual
def uptoBulk {H : Type} : DataW H → Nat
  | .lit (.string bytes) => bytes.length + 1
  | .lit _ => 1
  | .nil => 1
  | .ptr d => uptoBulk d + 1
  | .slice elems spare => uptoBulkAll elems + uptoBulkAll spare + 1
  | .agg parts => uptoBulkAll parts + 1
  | .iface _ d => uptoBulk d + 1
  | .map entries => uptoBulkEntries entries + 1
  | .held _ => 1
def uptoBulkAll {H : Type} : List (DataW H) → Nat
  | [] => 0
  | d :: r => uptoBulk d + uptoBulkAll r
def uptoBulkEntries {H : Type} : List (Lit × DataW H) → Nat
  | [] => 0
  | x :: r => uptoBulkEntry x + uptoBulkEntries r
def uptoBulkEntry {H : Type} : Lit × DataW H → Nat
  | (.string bytes, d) => bytes.length + uptoBulk d + 1
  | (_, d) => uptoBulk d + 1
 end
def uptoSmall : (H : Type) → List (DataW H) → Bool := fun _ ds => decide (uptoBulkAll ds ≤ 1048576)
def OpenSpec.upto (s : _root_.Go.ChangeSpec) : _root_.Go.OpenSpec := { _root_.Go.OpenSpec.ofChange s with cond := some uptoSmall }

/-- 'purlieulaw13.SlotsLess', WHERE WHAT IT READS IS OF BULK AT MOST 1048576: true; the input reads as it did. -/
def slotsLessUptoRow : OpenClaim := { program := "ytkeenmalbkcjnaa", sum := "7e0db2860f8952b6d5dd9ac6fabd3549cd3587a526bc43bbf7b1b4cc08185713", func := "purlieu/purlieulaw13.SlotsLess", spec := "slotsLess", unfollowed := true, recurses := true, apart := false, narrowed := true }
def SlotsLessUptoSaid : Prop := slotsLessUptoRow.holds Try.pinned (OpenSpec.upto slotsLessSpec)

/-- 'purlieulaw13.SlotsGets', WHERE WHAT IT READS IS OF BULK AT MOST 1048576: true; the input reads as it did. -/
def slotsGetsUptoRow : OpenClaim := { program := "ytkeenmalbkcjnaa", sum := "7e0db2860f8952b6d5dd9ac6fabd3549cd3587a526bc43bbf7b1b4cc08185713", func := "purlieu/purlieulaw13.SlotsGets", spec := "slotsGets", unfollowed := true, recurses := true, apart := false, narrowed := true }
def SlotsGetsUptoSaid : Prop := slotsGetsUptoRow.holds Try.pinned (OpenSpec.upto slotsGetsSpec)

/-- 'purlieulaw13.SlotsActs', WHERE WHAT IT READS IS OF BULK AT MOST 1048576: true; the input reads as it did. -/
def slotsActsUptoRow : OpenClaim := { program := "ytkeenmalbkcjnaa", sum := "7e0db2860f8952b6d5dd9ac6fabd3549cd3587a526bc43bbf7b1b4cc08185713", func := "purlieu/purlieulaw13.SlotsActs", spec := "slotsActs", unfollowed := true, recurses := true, apart := false, narrowed := true }
def SlotsActsUptoSaid : Prop := slotsActsUptoRow.holds Try.pinned (OpenSpec.upto slotsActsSpec)

/-- 'purlieulaw13.SlotsClones', WHERE WHAT IT READS IS OF BULK AT MOST 1048576: true; the input reads as it did. -/
def slotsClonesUptoRow : OpenClaim := { program := "ytkeenmalbkcjnaa", sum := "7e0db2860f8952b6d5dd9ac6fabd3549cd3587a526bc43bbf7b1b4cc08185713", func := "purlieu/purlieulaw13.SlotsClones", spec := "slotsClones", unfollowed := true, recurses := true, apart := false, narrowed := true }
def SlotsClonesUptoSaid : Prop := slotsClonesUptoRow.holds Try.pinned (OpenSpec.upto slotsClonesSpec)

/-- 'purlieulaw13.SlotsNews', WHERE WHAT IT READS IS OF BULK AT MOST 1048576: true; the input reads as it did. -/
def slotsNewsUptoRow : OpenClaim := { program := "ytkeenmalbkcjnaa", sum := "7e0db2860f8952b6d5dd9ac6fabd3549cd3587a526bc43bbf7b1b4cc08185713", func := "purlieu/purlieulaw13.SlotsNews", spec := "slotsNews", unfollowed := true, recurses := true, apart := false, narrowed := true }
def SlotsNewsUptoSaid : Prop := slotsNewsUptoRow.holds Try.pinned (OpenSpec.upto slotsNewsSpec)

end Rows
end Go.Proofs.Ytkeenmalbkcjnaa
