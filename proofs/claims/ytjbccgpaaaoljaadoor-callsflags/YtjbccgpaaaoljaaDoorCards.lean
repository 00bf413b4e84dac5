/-
  DERIVED. GIVEN WITH THE SEED: THE CARDS: each row of YtjbccgpaaaoljaaDoorRows.lean that lists a variable, with what it lists TIED to the program's text (the seventh form; the later family's looks); each row that meets fmt, with fmt's text TOLD by the authors' own Lean function (tested against real Go, not proved from fmt's source: count such statements apart). THE CARD IS WHAT COUNTS. Prove the row's statement (the work); the ties are given (YtjbccgpaaaoljaaDoorTie.lean); close each card by the builder's one call (the guide's Derived/Test/ToyasCard.lean, 'card_holds'). Laid BY PROGRAM, IN A SANDBOX (cutbox-door.mjs). By AI agents, Wed Nov 11 2026. No macro, syntax, notation, axiom, sorry.
-/
import Derived.Test.YtjbccgpaaaoljaaDoorRows
import GoSem.ClaimSeven
namespace Go.Proofs.YtjbccgpaaaoljaaDoor
namespace Rows

/-- THE TIED CARD OF 'purlieulaw15.CallsGate'. -/
def callsGateCard : Claim7 := { stood := { row := callsGateRow, standIns := [], harness := (true, "94a9308171d9e45166b288a22aadf5d32d23e23ccde652f57c1d37d50dbba4c2"), looks := false }, kinds := [], alts := [], laidByText := true, laidKinds := [.data, .listed, .data, .pinned], laidTests := true, laidLooks := .later }
def CallsGateCardSaid : Prop := Claim7.holds Tryd.pinned (.plain (OpenSpec.ofChange callsGateSpec)) callsGateCard

/-- THE TIED CARD OF 'purlieulaw15.CallsGlobal'. -/
def callsGlobalCard : Claim7 := { stood := { row := callsGlobalRow, standIns := [], harness := (true, "94a9308171d9e45166b288a22aadf5d32d23e23ccde652f57c1d37d50dbba4c2"), looks := false }, kinds := [], alts := [], laidByText := true, laidKinds := [.data, .listed, .data, .pinned], laidTests := true, laidLooks := .later }
def CallsGlobalCardSaid : Prop := Claim7.holds Tryd.pinned (.plain (OpenSpec.ofChange callsGlobalSpec)) callsGlobalCard

/-- THE TIED CARD OF 'purlieulaw15.CallsNames'. -/
def callsNamesCard : Claim7 := { stood := { row := callsNamesRow, standIns := [], harness := (true, "94a9308171d9e45166b288a22aadf5d32d23e23ccde652f57c1d37d50dbba4c2"), looks := false }, kinds := [], alts := [], laidByText := true, laidKinds := [.data, .listed, .data, .pinned], laidTests := true, laidLooks := .later }
def CallsNamesCardSaid : Prop := Claim7.holds Tryd.pinned (.plain (OpenSpec.ofChange callsNamesSpec)) callsNamesCard

/-- THE TIED CARD OF 'purlieulaw15.CallsTable'. -/
def callsTableCard : Claim7 := { stood := { row := callsTableRow, standIns := [], harness := (true, "94a9308171d9e45166b288a22aadf5d32d23e23ccde652f57c1d37d50dbba4c2"), looks := false }, kinds := [], alts := [], laidByText := true, laidKinds := [.data, .listed, .data, .pinned], laidTests := true, laidLooks := .later }
def CallsTableCardSaid : Prop := Claim7.holds Tryd.pinned (.plain (OpenSpec.ofChange callsTableSpec)) callsTableCard

/-- THE TIED CARD OF 'purlieulaw15.CallsFlags'. -/
def callsFlagsCard : Claim7 := { stood := { row := callsFlagsRow, standIns := [], harness := (true, "94a9308171d9e45166b288a22aadf5d32d23e23ccde652f57c1d37d50dbba4c2"), looks := false }, kinds := [], alts := [], laidByText := true, laidKinds := [.data, .listed, .data, .pinned], laidTests := true, laidLooks := .later }
def CallsFlagsCardSaid : Prop := Claim7.holds Tryd.pinned (.plain (OpenSpec.ofChange callsFlagsSpec)) callsFlagsCard

/-- THE SECOND FORM's CARD OF 'purlieulaw15.CallsGate'. -/
def callsGateUptoCard : Claim7 := { stood := { row := callsGateUptoRow, standIns := [], harness := (true, "94a9308171d9e45166b288a22aadf5d32d23e23ccde652f57c1d37d50dbba4c2"), looks := false }, kinds := [], alts := [], laidByText := true, laidKinds := [.data, .listed, .data, .pinned], laidTests := true, laidLooks := .later }
def CallsGateUptoCardSaid : Prop := Claim7.holds Tryd.pinned (.plain (OpenSpec.upto callsGateSpec)) callsGateUptoCard

/-- THE SECOND FORM's CARD OF 'purlieulaw15.CallsGlobal'. -/
def callsGlobalUptoCard : Claim7 := { stood := { row := callsGlobalUptoRow, standIns := [], harness := (true, "94a9308171d9e45166b288a22aadf5d32d23e23ccde652f57c1d37d50dbba4c2"), looks := false }, kinds := [], alts := [], laidByText := true, laidKinds := [.data, .listed, .data, .pinned], laidTests := true, laidLooks := .later }
def CallsGlobalUptoCardSaid : Prop := Claim7.holds Tryd.pinned (.plain (OpenSpec.upto callsGlobalSpec)) callsGlobalUptoCard

/-- THE SECOND FORM's CARD OF 'purlieulaw15.CallsNames'. -/
def callsNamesUptoCard : Claim7 := { stood := { row := callsNamesUptoRow, standIns := [], harness := (true, "94a9308171d9e45166b288a22aadf5d32d23e23ccde652f57c1d37d50dbba4c2"), looks := false }, kinds := [], alts := [], laidByText := true, laidKinds := [.data, .listed, .data, .pinned], laidTests := true, laidLooks := .later }
def CallsNamesUptoCardSaid : Prop := Claim7.holds Tryd.pinned (.plain (OpenSpec.upto callsNamesSpec)) callsNamesUptoCard

/-- THE SECOND FORM's CARD OF 'purlieulaw15.CallsTable'. -/
def callsTableUptoCard : Claim7 := { stood := { row := callsTableUptoRow, standIns := [], harness := (true, "94a9308171d9e45166b288a22aadf5d32d23e23ccde652f57c1d37d50dbba4c2"), looks := false }, kinds := [], alts := [], laidByText := true, laidKinds := [.data, .listed, .data, .pinned], laidTests := true, laidLooks := .later }
def CallsTableUptoCardSaid : Prop := Claim7.holds Tryd.pinned (.plain (OpenSpec.upto callsTableSpec)) callsTableUptoCard

/-- THE SECOND FORM's CARD OF 'purlieulaw15.CallsFlags'. -/
def callsFlagsUptoCard : Claim7 := { stood := { row := callsFlagsUptoRow, standIns := [], harness := (true, "94a9308171d9e45166b288a22aadf5d32d23e23ccde652f57c1d37d50dbba4c2"), looks := false }, kinds := [], alts := [], laidByText := true, laidKinds := [.data, .listed, .data, .pinned], laidTests := true, laidLooks := .later }
def CallsFlagsUptoCardSaid : Prop := Claim7.holds Tryd.pinned (.plain (OpenSpec.upto callsFlagsSpec)) callsFlagsUptoCard
end Rows
end Go.Proofs.YtjbccgpaaaoljaaDoor
