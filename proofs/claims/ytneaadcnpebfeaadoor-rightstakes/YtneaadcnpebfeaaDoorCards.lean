/-
  DERIVED. GIVEN WITH THE SEED: THE CARDS: each row of YtneaadcnpebfeaaDoorRows.lean that lists a variable, with what it lists TIED to the program's text (the seventh form; the later family's looks); each row that meets fmt, with fmt's text TOLD by the authors' own Lean function (tested against real Go, not proved from fmt's source: count such statements apart). THE CARD IS WHAT COUNTS. Prove the row's statement (the work); the ties are given (YtneaadcnpebfeaaDoorTie.lean); close each card by the builder's one call (the guide's Derived/Test/ToyasCard.lean, 'card_holds'). Laid BY PROGRAM, IN A SANDBOX (cutbox-door.mjs). By AI agents, Wed Nov 11 2026. No macro, syntax, notation, axiom, sorry.
-/
import Derived.Test.YtneaadcnpebfeaaDoorRows
import GoSem.ClaimSeven
namespace Go.Proofs.YtneaadcnpebfeaaDoor
namespace Rows

/-- THE TIED CARD OF 'purlieulaw01.RightsSubsets'. -/
def rightsSubsetsCard : Claim7 := { stood := { row := rightsSubsetsRow, standIns := [], harness := (true, "3c558693262e81124e8e6753285b3fd0b157d0ea282c00bc061785a35e975268"), looks := false }, kinds := [], alts := [], laidByText := true, laidKinds := [.data, .listed, .data, .pinned], laidTests := true, laidLooks := .later }
def RightsSubsetsCardSaid : Prop := Claim7.holds Tryd.pinned (.plain (OpenSpec.ofChange rightsSubsetsSpec)) rightsSubsetsCard

/-- THE TIED CARD OF 'purlieulaw01.RightsShows'. -/
def rightsShowsCard : Claim7 := { stood := { row := rightsShowsRow, standIns := [], harness := (true, "3c558693262e81124e8e6753285b3fd0b157d0ea282c00bc061785a35e975268"), looks := false }, kinds := [], alts := [], laidByText := true, laidKinds := [.data, .listed, .data, .pinned], laidTests := true, laidLooks := .later }
def RightsShowsCardSaid : Prop := Claim7.holds Tryd.pinned (.plain (OpenSpec.ofChange rightsShowsSpec)) rightsShowsCard

/-- THE TIED CARD OF 'purlieulaw01.RightsParses'. -/
def rightsParsesCard : Claim7 := { stood := { row := rightsParsesRow, standIns := [], harness := (true, "3c558693262e81124e8e6753285b3fd0b157d0ea282c00bc061785a35e975268"), looks := false }, kinds := [], alts := [], laidByText := true, laidKinds := [.data, .listed, .data, .pinned], laidTests := true, laidLooks := .later }
def RightsParsesCardSaid : Prop := Claim7.holds Tryd.pinned (.plain (OpenSpec.ofChange rightsParsesSpec)) rightsParsesCard

/-- THE TIED CARD OF 'purlieulaw01.RightsReckons'. -/
def rightsReckonsCard : Claim7 := { stood := { row := rightsReckonsRow, standIns := [], harness := (true, "3c558693262e81124e8e6753285b3fd0b157d0ea282c00bc061785a35e975268"), looks := false }, kinds := [], alts := [], laidByText := true, laidKinds := [.data, .listed, .data, .pinned], laidTests := true, laidLooks := .later }
def RightsReckonsCardSaid : Prop := Claim7.holds Tryd.pinned (.plain (OpenSpec.ofChange rightsReckonsSpec)) rightsReckonsCard

/-- THE TIED CARD OF 'purlieulaw01.RightsMeets'. -/
def rightsMeetsCard : Claim7 := { stood := { row := rightsMeetsRow, standIns := [], harness := (true, "3c558693262e81124e8e6753285b3fd0b157d0ea282c00bc061785a35e975268"), looks := false }, kinds := [], alts := [], laidByText := true, laidKinds := [.data, .listed, .data, .pinned], laidTests := true, laidLooks := .later }
def RightsMeetsCardSaid : Prop := Claim7.holds Tryd.pinned (.plain (OpenSpec.ofChange rightsMeetsSpec)) rightsMeetsCard

/-- THE TIED CARD OF 'purlieulaw01.RightsNames'. -/
def rightsNamesCard : Claim7 := { stood := { row := rightsNamesRow, standIns := [], harness := (true, "3c558693262e81124e8e6753285b3fd0b157d0ea282c00bc061785a35e975268"), looks := false }, kinds := [], alts := [], laidByText := true, laidKinds := [.data, .listed, .data, .pinned], laidTests := true, laidLooks := .later }
def RightsNamesCardSaid : Prop := Claim7.holds Tryd.pinned (.plain (OpenSpec.ofChange rightsNamesSpec)) rightsNamesCard

/-- THE TIED CARD OF 'purlieulaw01.RightsTakes'. -/
def rightsTakesCard : Claim7 := { stood := { row := rightsTakesRow, standIns := [], harness := (true, "3c558693262e81124e8e6753285b3fd0b157d0ea282c00bc061785a35e975268"), looks := false }, kinds := [], alts := [], laidByText := true, laidKinds := [.data, .listed, .data, .pinned], laidTests := true, laidLooks := .later }
def RightsTakesCardSaid : Prop := Claim7.holds Tryd.pinned (.plain (OpenSpec.ofChange rightsTakesSpec)) rightsTakesCard

/-- THE TIED CARD OF 'purlieulaw01.RightsPuts'. -/
def rightsPutsCard : Claim7 := { stood := { row := rightsPutsRow, standIns := [], harness := (true, "3c558693262e81124e8e6753285b3fd0b157d0ea282c00bc061785a35e975268"), looks := false }, kinds := [], alts := [], laidByText := true, laidKinds := [.data, .listed, .data, .pinned], laidTests := true, laidLooks := .later }
def RightsPutsCardSaid : Prop := Claim7.holds Tryd.pinned (.plain (OpenSpec.ofChange rightsPutsSpec)) rightsPutsCard

/-- THE SECOND FORM's CARD OF 'purlieulaw01.RightsSubsets'. -/
def rightsSubsetsUptoCard : Claim7 := { stood := { row := rightsSubsetsUptoRow, standIns := [], harness := (true, "3c558693262e81124e8e6753285b3fd0b157d0ea282c00bc061785a35e975268"), looks := false }, kinds := [], alts := [], laidByText := true, laidKinds := [.data, .listed, .data, .pinned], laidTests := true, laidLooks := .later }
def RightsSubsetsUptoCardSaid : Prop := Claim7.holds Tryd.pinned (.plain (OpenSpec.upto rightsSubsetsSpec)) rightsSubsetsUptoCard

/-- THE SECOND FORM's CARD OF 'purlieulaw01.RightsShows'. -/
def rightsShowsUptoCard : Claim7 := { stood := { row := rightsShowsUptoRow, standIns := [], harness := (true, "3c558693262e81124e8e6753285b3fd0b157d0ea282c00bc061785a35e975268"), looks := false }, kinds := [], alts := [], laidByText := true, laidKinds := [.data, .listed, .data, .pinned], laidTests := true, laidLooks := .later }
def RightsShowsUptoCardSaid : Prop := Claim7.holds Tryd.pinned (.plain (OpenSpec.upto rightsShowsSpec)) rightsShowsUptoCard

/-- THE SECOND FORM's CARD OF 'purlieulaw01.RightsParses'. -/
def rightsParsesUptoCard : Claim7 := { stood := { row := rightsParsesUptoRow, standIns := [], harness := (true, "3c558693262e81124e8e6753285b3fd0b157d0ea282c00bc061785a35e975268"), looks := false }, kinds := [], alts := [], laidByText := true, laidKinds := [.data, .listed, .data, .pinned], laidTests := true, laidLooks := .later }
def RightsParsesUptoCardSaid : Prop := Claim7.holds Tryd.pinned (.plain (OpenSpec.upto rightsParsesSpec)) rightsParsesUptoCard

/-- THE SECOND FORM's CARD OF 'purlieulaw01.RightsReckons'. -/
def rightsReckonsUptoCard : Claim7 := { stood := { row := rightsReckonsUptoRow, standIns := [], harness := (true, "3c558693262e81124e8e6753285b3fd0b157d0ea282c00bc061785a35e975268"), looks := false }, kinds := [], alts := [], laidByText := true, laidKinds := [.data, .listed, .data, .pinned], laidTests := true, laidLooks := .later }
def RightsReckonsUptoCardSaid : Prop := Claim7.holds Tryd.pinned (.plain (OpenSpec.upto rightsReckonsSpec)) rightsReckonsUptoCard

/-- THE SECOND FORM's CARD OF 'purlieulaw01.RightsMeets'. -/
def rightsMeetsUptoCard : Claim7 := { stood := { row := rightsMeetsUptoRow, standIns := [], harness := (true, "3c558693262e81124e8e6753285b3fd0b157d0ea282c00bc061785a35e975268"), looks := false }, kinds := [], alts := [], laidByText := true, laidKinds := [.data, .listed, .data, .pinned], laidTests := true, laidLooks := .later }
def RightsMeetsUptoCardSaid : Prop := Claim7.holds Tryd.pinned (.plain (OpenSpec.upto rightsMeetsSpec)) rightsMeetsUptoCard

/-- THE SECOND FORM's CARD OF 'purlieulaw01.RightsNames'. -/
def rightsNamesUptoCard : Claim7 := { stood := { row := rightsNamesUptoRow, standIns := [], harness := (true, "3c558693262e81124e8e6753285b3fd0b157d0ea282c00bc061785a35e975268"), looks := false }, kinds := [], alts := [], laidByText := true, laidKinds := [.data, .listed, .data, .pinned], laidTests := true, laidLooks := .later }
def RightsNamesUptoCardSaid : Prop := Claim7.holds Tryd.pinned (.plain (OpenSpec.upto rightsNamesSpec)) rightsNamesUptoCard

/-- THE SECOND FORM's CARD OF 'purlieulaw01.RightsTakes'. -/
def rightsTakesUptoCard : Claim7 := { stood := { row := rightsTakesUptoRow, standIns := [], harness := (true, "3c558693262e81124e8e6753285b3fd0b157d0ea282c00bc061785a35e975268"), looks := false }, kinds := [], alts := [], laidByText := true, laidKinds := [.data, .listed, .data, .pinned], laidTests := true, laidLooks := .later }
def RightsTakesUptoCardSaid : Prop := Claim7.holds Tryd.pinned (.plain (OpenSpec.upto rightsTakesSpec)) rightsTakesUptoCard

/-- THE SECOND FORM's CARD OF 'purlieulaw01.RightsPuts'. -/
def rightsPutsUptoCard : Claim7 := { stood := { row := rightsPutsUptoRow, standIns := [], harness := (true, "3c558693262e81124e8e6753285b3fd0b157d0ea282c00bc061785a35e975268"), looks := false }, kinds := [], alts := [], laidByText := true, laidKinds := [.data, .listed, .data, .pinned], laidTests := true, laidLooks := .later }
def RightsPutsUptoCardSaid : Prop := Claim7.holds Tryd.pinned (.plain (OpenSpec.upto rightsPutsSpec)) rightsPutsUptoCard
end Rows
end Go.Proofs.YtneaadcnpebfeaaDoor
