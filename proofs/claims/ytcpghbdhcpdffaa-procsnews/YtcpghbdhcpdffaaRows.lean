/-
  No cell of these rows narrows 'for every input' (looked for: loops, veiled, ifaces, maps, wideKeys, modest, calm, conditions, laid).
  DERIVED. THE GIVEN ROWS OF THIS SEAT. 3 by the template 'for every input the law returns true; each argument reads behind the call as it read before'; 0 by the template 'total and deterministic' (their statements: YtcpghbdhcpdffaaTotals.lean).
  GIVEN WITH THE SEED: the statements are not yours to turn. If you find one false, say at which input.
  Laid BY PROGRAM, IN A SANDBOX (cutbox-rows.mjs): the forced cells as the released guide's own fill.sh prints them over the translation 862d7d7a6bae5940… (all of the seat's roots in one cut). By AI agents, Wed Nov 11 2026. No macro, syntax, notation, axiom, sorry.
-/
import Derived.Test.YtcpghbdhcpdffaaChecked
import GoSem.Claim
import GoSem.ClaimJoined
import GoSem.ClaimMapViews
import Derived.JoinedTies
import Derived.KernelRfl
namespace Go.Proofs.Ytcpghbdhcpdffaa
/- THE CELL 'sum', in the pinned program and in every row, IS THE sha256 OF THE DUMP (.gsa) THAT YtcpghbdhcpdffaaProg.lean LOADS. Nothing in Lean hashes anything: it is a label: what it is worth is what the hold of that sum in a sandbox is worth. -/
noncomputable def Try.pinned : Pinned := { name := "ytcpghbdhcpdffaa", sum := "862d7d7a6bae5940ec63397c529b0cc101b2fbd8636e3c41521f51707b5c6109", checked := Try.checked }
namespace Rows
def none {H : Type} : Left H := { results := [], args := [] }

/-- 'purlieulaw14.ProcsFamily': WHATEVER THE INPUT: true; the input reads as it did. -/
def procsFamilySpec : ChangeSpec := { name := "procsFamily", fn := fun _ => fun
  | [d1, d2] => { results := [.lit (.bool true)], args := [d1, d2] }
  | _ => none }
def procsFamilyRow : OpenClaim := { program := "ytcpghbdhcpdffaa", sum := "862d7d7a6bae5940ec63397c529b0cc101b2fbd8636e3c41521f51707b5c6109", func := "purlieu/purlieulaw14.ProcsFamily", spec := "procsFamily", unfollowed := true, recurses := true, apart := false }
def ProcsFamilySaid : Prop := procsFamilyRow.holds Try.pinned (OpenSpec.ofChange procsFamilySpec)

/-- ITS FALSE NEIGHBOUR: 'it returns false'. Refute it at one input. -/
def procsFamilyWrong : ChangeSpec := { name := "procsFamily", fn := fun _ => fun
  | [d1, d2] => { results := [.lit (.bool false)], args := [d1, d2] }
  | _ => none }
def ProcsFamilyWrongFalsely : Prop := procsFamilyRow.holds Try.pinned (OpenSpec.ofChange procsFamilyWrong)

/-- 'purlieulaw14.ProcsStays': WHATEVER THE INPUT: true; the input reads as it did. -/
def procsStaysSpec : ChangeSpec := { name := "procsStays", fn := fun _ => fun
  | [d] => { results := [.lit (.bool true)], args := [d] }
  | _ => none }
def procsStaysRow : OpenClaim := { program := "ytcpghbdhcpdffaa", sum := "862d7d7a6bae5940ec63397c529b0cc101b2fbd8636e3c41521f51707b5c6109", func := "purlieu/purlieulaw14.ProcsStays", spec := "procsStays", unfollowed := true, recurses := true, apart := false }
def ProcsStaysSaid : Prop := procsStaysRow.holds Try.pinned (OpenSpec.ofChange procsStaysSpec)

/-- ITS FALSE NEIGHBOUR: 'it returns false'. Refute it at one input. -/
def procsStaysWrong : ChangeSpec := { name := "procsStays", fn := fun _ => fun
  | [d] => { results := [.lit (.bool false)], args := [d] }
  | _ => none }
def ProcsStaysWrongFalsely : Prop := procsStaysRow.holds Try.pinned (OpenSpec.ofChange procsStaysWrong)

/-- 'purlieulaw14.ProcsNews': WHATEVER THE INPUT: true; the input reads as it did. -/
def procsNewsSpec : ChangeSpec := { name := "procsNews", fn := fun _ => fun
  | [d1, d2] => { results := [.lit (.bool true)], args := [d1, d2] }
  | _ => none }
def procsNewsRow : OpenClaim := { program := "ytcpghbdhcpdffaa", sum := "862d7d7a6bae5940ec63397c529b0cc101b2fbd8636e3c41521f51707b5c6109", func := "purlieu/purlieulaw14.ProcsNews", spec := "procsNews", unfollowed := true, recurses := true, apart := false }
def ProcsNewsSaid : Prop := procsNewsRow.holds Try.pinned (OpenSpec.ofChange procsNewsSpec)

/-- ITS FALSE NEIGHBOUR: 'it returns false'. Refute it at one input. -/
def procsNewsWrong : ChangeSpec := { name := "procsNews", fn := fun _ => fun
  | [d1, d2] => { results := [.lit (.bool false)], args := [d1, d2] }
  | _ => none }
def ProcsNewsWrongFalsely : Prop := procsNewsRow.holds Try.pinned (OpenSpec.ofChange procsNewsWrong)

/- THE SECOND FORM. 'bulk': how many values and letters a reading holds, each counted each time it is reached (what is shared counts as often as it is met; a slice's spare places count too). A statement '..UptoSaid' is the law's where the arguments, and the package variables that the reading takes, are together of bulk at most 1048576: NARROWER than '..Said'. Prove '..Said' where nothing that the law and all that it calls make is longer than what came in: it says more and counts as full. Else prove '..UptoSaid'. A law counts once. -/
mutual
def uptoBulk {H : Type} : DataW H → Nat
  | .lit (.string bytes) => bytes.length + 1
  | .lit _ => 1
  | .nil => 1
  | .ptr d => uptoBulk d + 1
  | .slice elems spare => uptoBulkAll elems + uptoBulkAll spare + 1
  | .agg parts => uptoBulkAll parts + 1
  | .iface _ d => uptoBulk d + 1
  | .map entries => uptoBulkEntries entries + 1
  | .held _ => 1
def uptoBulkAll {H : Type} : List (DataW H) → Nat
  | [] => 0
  | d :: r => uptoBulk d + uptoBulkAll r
def uptoBulkEntries {H : Type} : List (Lit × DataW H) → Nat
  | [] => 0
  | x :: r => uptoBulkEntry x + uptoBulkEntries r
def uptoBulkEntry {H : Type} : Lit × DataW H → Nat
  | (.string bytes, d) => bytes.length + uptoBulk d + 1
  | (_, d) => uptoBulk d + 1
 end
def uptoSmall : (H : Type) → List (DataW H) → Bool := fun _ ds => decide (uptoBulkAll ds ≤ 1048576)
def OpenSpec.upto (s : _root_.Go.ChangeSpec) : _root_.Go.OpenSpec := { _root_.Go.OpenSpec.ofChange s with cond := some uptoSmall }

/-- 'purlieulaw14.ProcsFamily', WHERE WHAT IT READS IS OF BULK AT MOST 1048576: true; the input reads as it did. -/
def procsFamilyUptoRow : OpenClaim := { program := "ytcpghbdhcpdffaa", sum := "862d7d7a6bae5940ec63397c529b0cc101b2fbd8636e3c41521f51707b5c6109", func := "purlieu/purlieulaw14.ProcsFamily", spec := "procsFamily", unfollowed := true, recurses := true, apart := false, narrowed := true }
def ProcsFamilyUptoSaid : Prop := procsFamilyUptoRow.holds Try.pinned (OpenSpec.upto procsFamilySpec)

/-- 'purlieulaw14.ProcsStays', WHERE WHAT IT READS IS OF BULK AT MOST 1048576: true; the input reads as it did. -/
def procsStaysUptoRow : OpenClaim := { program := "ytcpghbdhcpdffaa", sum := "862d7d7a6bae5940ec63397c529b0cc101b2fbd8636e3c41521f51707b5c6109", func := "purlieu/purlieulaw14.ProcsStays", spec := "procsStays", unfollowed := true, recurses := true, apart := false, narrowed := true }
def ProcsStaysUptoSaid : Prop := procsStaysUptoRow.holds Try.pinned (OpenSpec.upto procsStaysSpec)

/-- 'purlieulaw14.ProcsNews', WHERE WHAT IT READS IS OF BULK AT MOST 1048576: true; the input reads as it did. -/
def procsNewsUptoRow : OpenClaim := { program := "ytcpghbdhcpdffaa", sum := "862d7d7a6bae5940ec63397c529b0cc101b2fbd8636e3c41521f51707b5c6109", func := "purlieu/purlieulaw14.ProcsNews", spec := "procsNews", unfollowed := true, recurses := true, apart := false, narrowed := true }
def ProcsNewsUptoSaid : Prop := procsNewsUptoRow.holds Try.pinned (OpenSpec.upto procsNewsSpec)

end Rows
end Go.Proofs.Ytcpghbdhcpdffaa
