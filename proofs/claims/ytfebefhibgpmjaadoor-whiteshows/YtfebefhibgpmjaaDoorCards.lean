/-
  DERIVED. GIVEN WITH THE SEED: THE CARDS: each row of YtfebefhibgpmjaaDoorRows.lean that lists a variable, with what it lists TIED to the program's text (the seventh form; the later family's looks); each row that meets fmt, with fmt's text TOLD by the authors' own Lean function (tested against real Go, not proved from fmt's source: count such statements apart). THE CARD IS WHAT COUNTS. Prove the row's statement (the work); the ties are given (YtfebefhibgpmjaaDoorTie.lean); close each card by the builder's one call (the guide's Derived/Test/ToyasCard.lean, 'card_holds'). Laid BY PROGRAM, IN A SANDBOX (cutbox-door.mjs). By AI agents, Wed Nov 11 2026. No macro, syntax, notation, axiom, sorry.
-/
import Derived.Test.YtfebefhibgpmjaaDoorRows
import GoSem.ClaimSeven
namespace Go.Proofs.YtfebefhibgpmjaaDoor
namespace Rows

/-- THE TIED CARD OF 'purlieulaw02.WhiteHas'. -/
def whiteHasCard : Claim7 := { stood := { row := whiteHasRow, standIns := [], harness := (true, "3f219ea87593acb0550e6c6be303ee0f0b10e7d34b0a5fd299bd936d5766cc94"), looks := false }, kinds := [], alts := [], laidByText := true, laidKinds := [.data, .data, .data], laidTests := true, laidLooks := .later }
def WhiteHasCardSaid : Prop := Claim7.holds Tryd.pinned (.plain (OpenSpec.ofChange whiteHasSpec)) whiteHasCard

/-- THE TIED CARD OF 'purlieulaw02.WhiteShows'. -/
def whiteShowsCard : Claim7 := { stood := { row := whiteShowsRow, standIns := [], harness := (true, "3f219ea87593acb0550e6c6be303ee0f0b10e7d34b0a5fd299bd936d5766cc94"), looks := false }, kinds := [], alts := [], laidByText := true, laidKinds := [.data, .data, .data], laidTests := true, laidLooks := .later }
def WhiteShowsCardSaid : Prop := Claim7.holds Tryd.pinned (.plain (OpenSpec.ofChange whiteShowsSpec)) whiteShowsCard

/-- THE TIED CARD OF 'purlieulaw02.WhiteMakes'. -/
def whiteMakesCard : Claim7 := { stood := { row := whiteMakesRow, standIns := [], harness := (true, "3f219ea87593acb0550e6c6be303ee0f0b10e7d34b0a5fd299bd936d5766cc94"), looks := false }, kinds := [], alts := [], laidByText := true, laidKinds := [.data, .data, .data], laidTests := true, laidLooks := .later }
def WhiteMakesCardSaid : Prop := Claim7.holds Tryd.pinned (.plain (OpenSpec.ofChange whiteMakesSpec)) whiteMakesCard

/-- THE TIED CARD OF 'purlieulaw02.WhiteMasks'. -/
def whiteMasksCard : Claim7 := { stood := { row := whiteMasksRow, standIns := [], harness := (true, "3f219ea87593acb0550e6c6be303ee0f0b10e7d34b0a5fd299bd936d5766cc94"), looks := false }, kinds := [], alts := [], laidByText := true, laidKinds := [.data, .data, .data], laidTests := true, laidLooks := .later }
def WhiteMasksCardSaid : Prop := Claim7.holds Tryd.pinned (.plain (OpenSpec.ofChange whiteMasksSpec)) whiteMasksCard

/-- THE TIED CARD OF 'purlieulaw02.WhiteLimits'. -/
def whiteLimitsCard : Claim7 := { stood := { row := whiteLimitsRow, standIns := [], harness := (true, "3f219ea87593acb0550e6c6be303ee0f0b10e7d34b0a5fd299bd936d5766cc94"), looks := false }, kinds := [], alts := [], laidByText := true, laidKinds := [.data, .data, .data], laidTests := true, laidLooks := .later }
def WhiteLimitsCardSaid : Prop := Claim7.holds Tryd.pinned (.plain (OpenSpec.ofChange whiteLimitsSpec)) whiteLimitsCard

/-- THE TIED CARD OF 'purlieulaw02.WhiteSets'. -/
def whiteSetsCard : Claim7 := { stood := { row := whiteSetsRow, standIns := [], harness := (true, "3f219ea87593acb0550e6c6be303ee0f0b10e7d34b0a5fd299bd936d5766cc94"), looks := false }, kinds := [], alts := [], laidByText := true, laidKinds := [.data, .data, .data], laidTests := true, laidLooks := .later }
def WhiteSetsCardSaid : Prop := Claim7.holds Tryd.pinned (.plain (OpenSpec.ofChange whiteSetsSpec)) whiteSetsCard

/-- THE SECOND FORM's CARD OF 'purlieulaw02.WhiteHas'. -/
def whiteHasUptoCard : Claim7 := { stood := { row := whiteHasUptoRow, standIns := [], harness := (true, "3f219ea87593acb0550e6c6be303ee0f0b10e7d34b0a5fd299bd936d5766cc94"), looks := false }, kinds := [], alts := [], laidByText := true, laidKinds := [.data, .data, .data], laidTests := true, laidLooks := .later }
def WhiteHasUptoCardSaid : Prop := Claim7.holds Tryd.pinned (.plain (OpenSpec.upto whiteHasSpec)) whiteHasUptoCard

/-- THE SECOND FORM's CARD OF 'purlieulaw02.WhiteShows'. -/
def whiteShowsUptoCard : Claim7 := { stood := { row := whiteShowsUptoRow, standIns := [], harness := (true, "3f219ea87593acb0550e6c6be303ee0f0b10e7d34b0a5fd299bd936d5766cc94"), looks := false }, kinds := [], alts := [], laidByText := true, laidKinds := [.data, .data, .data], laidTests := true, laidLooks := .later }
def WhiteShowsUptoCardSaid : Prop := Claim7.holds Tryd.pinned (.plain (OpenSpec.upto whiteShowsSpec)) whiteShowsUptoCard

/-- THE SECOND FORM's CARD OF 'purlieulaw02.WhiteMakes'. -/
def whiteMakesUptoCard : Claim7 := { stood := { row := whiteMakesUptoRow, standIns := [], harness := (true, "3f219ea87593acb0550e6c6be303ee0f0b10e7d34b0a5fd299bd936d5766cc94"), looks := false }, kinds := [], alts := [], laidByText := true, laidKinds := [.data, .data, .data], laidTests := true, laidLooks := .later }
def WhiteMakesUptoCardSaid : Prop := Claim7.holds Tryd.pinned (.plain (OpenSpec.upto whiteMakesSpec)) whiteMakesUptoCard

/-- THE SECOND FORM's CARD OF 'purlieulaw02.WhiteMasks'. -/
def whiteMasksUptoCard : Claim7 := { stood := { row := whiteMasksUptoRow, standIns := [], harness := (true, "3f219ea87593acb0550e6c6be303ee0f0b10e7d34b0a5fd299bd936d5766cc94"), looks := false }, kinds := [], alts := [], laidByText := true, laidKinds := [.data, .data, .data], laidTests := true, laidLooks := .later }
def WhiteMasksUptoCardSaid : Prop := Claim7.holds Tryd.pinned (.plain (OpenSpec.upto whiteMasksSpec)) whiteMasksUptoCard

/-- THE SECOND FORM's CARD OF 'purlieulaw02.WhiteLimits'. -/
def whiteLimitsUptoCard : Claim7 := { stood := { row := whiteLimitsUptoRow, standIns := [], harness := (true, "3f219ea87593acb0550e6c6be303ee0f0b10e7d34b0a5fd299bd936d5766cc94"), looks := false }, kinds := [], alts := [], laidByText := true, laidKinds := [.data, .data, .data], laidTests := true, laidLooks := .later }
def WhiteLimitsUptoCardSaid : Prop := Claim7.holds Tryd.pinned (.plain (OpenSpec.upto whiteLimitsSpec)) whiteLimitsUptoCard

/-- THE SECOND FORM's CARD OF 'purlieulaw02.WhiteSets'. -/
def whiteSetsUptoCard : Claim7 := { stood := { row := whiteSetsUptoRow, standIns := [], harness := (true, "3f219ea87593acb0550e6c6be303ee0f0b10e7d34b0a5fd299bd936d5766cc94"), looks := false }, kinds := [], alts := [], laidByText := true, laidKinds := [.data, .data, .data], laidTests := true, laidLooks := .later }
def WhiteSetsUptoCardSaid : Prop := Claim7.holds Tryd.pinned (.plain (OpenSpec.upto whiteSetsSpec)) whiteSetsUptoCard
end Rows
end Go.Proofs.YtfebefhibgpmjaaDoor
