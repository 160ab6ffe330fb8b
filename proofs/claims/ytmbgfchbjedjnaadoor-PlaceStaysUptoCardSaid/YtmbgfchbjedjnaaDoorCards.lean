/-
  DERIVED. GIVEN WITH THE SEED: THE CARDS: each row of YtmbgfchbjedjnaaDoorRows.lean that lists a variable, with what it lists TIED to the program's text (the seventh form; the later family's looks); each row that meets fmt, with fmt's text TOLD by the authors' own Lean function (tested against real Go, not proved from fmt's source: count such statements apart). THE CARD IS WHAT COUNTS. Prove the row's statement (the work); the ties are given (YtmbgfchbjedjnaaDoorTie.lean); close each card by the builder's one call (the guide's Derived/Test/ToyasCard.lean, 'card_holds'). Laid BY PROGRAM, IN A SANDBOX (cutbox-door.mjs). By AI agents, Wed Nov 11 2026. No macro, syntax, notation, axiom, sorry.
-/
import Derived.Test.YtmbgfchbjedjnaaDoorRows
import GoSem.ClaimSeven
namespace Go.Proofs.YtmbgfchbjedjnaaDoor
namespace Rows

/-- THE TIED CARD OF 'offsidelaw02.PlaceOf'. -/
def placeOfCard : Claim7 := { stood := { row := placeOfRow, standIns := [], harness := (true, "cf52a15ae8134552100143372ec5c70d6b9cc7c4120c1c625338ce6ee5edfcd6"), looks := false }, kinds := [], alts := [], laidByText := true, laidKinds := [.data, .pinned], laidTests := true, laidLooks := .later }
def PlaceOfCardSaid : Prop := Claim7.holds Tryd.pinned (.plain (OpenSpec.ofChange placeOfSpec)) placeOfCard

/-- THE TIED CARD OF 'offsidelaw02.PlaceLines'. -/
def placeLinesCard : Claim7 := { stood := { row := placeLinesRow, standIns := [], harness := (true, "cf52a15ae8134552100143372ec5c70d6b9cc7c4120c1c625338ce6ee5edfcd6"), looks := false }, kinds := [], alts := [], laidByText := true, laidKinds := [.data, .pinned], laidTests := true, laidLooks := .later }
def PlaceLinesCardSaid : Prop := Claim7.holds Tryd.pinned (.plain (OpenSpec.ofChange placeLinesSpec)) placeLinesCard

/-- THE TIED CARD OF 'offsidelaw02.PlaceRises'. -/
def placeRisesCard : Claim7 := { stood := { row := placeRisesRow, standIns := [], harness := (true, "cf52a15ae8134552100143372ec5c70d6b9cc7c4120c1c625338ce6ee5edfcd6"), looks := false }, kinds := [], alts := [], laidByText := true, laidKinds := [.data, .pinned], laidTests := true, laidLooks := .later }
def PlaceRisesCardSaid : Prop := Claim7.holds Tryd.pinned (.plain (OpenSpec.ofChange placeRisesSpec)) placeRisesCard

/-- THE TIED CARD OF 'offsidelaw02.PlaceWidths'. -/
def placeWidthsCard : Claim7 := { stood := { row := placeWidthsRow, standIns := [], harness := (true, "cf52a15ae8134552100143372ec5c70d6b9cc7c4120c1c625338ce6ee5edfcd6"), looks := false }, kinds := [], alts := [], laidByText := true, laidKinds := [.data, .pinned], laidTests := true, laidLooks := .later }
def PlaceWidthsCardSaid : Prop := Claim7.holds Tryd.pinned (.plain (OpenSpec.ofChange placeWidthsSpec)) placeWidthsCard

/-- THE TIED CARD OF 'offsidelaw02.PlaceCounts'. -/
def placeCountsCard : Claim7 := { stood := { row := placeCountsRow, standIns := [], harness := (true, "cf52a15ae8134552100143372ec5c70d6b9cc7c4120c1c625338ce6ee5edfcd6"), looks := false }, kinds := [], alts := [], laidByText := true, laidKinds := [.data, .pinned], laidTests := true, laidLooks := .later }
def PlaceCountsCardSaid : Prop := Claim7.holds Tryd.pinned (.plain (OpenSpec.ofChange placeCountsSpec)) placeCountsCard

/-- THE TIED CARD OF 'offsidelaw02.PlaceSpreads'. -/
def placeSpreadsCard : Claim7 := { stood := { row := placeSpreadsRow, standIns := [], harness := (true, "cf52a15ae8134552100143372ec5c70d6b9cc7c4120c1c625338ce6ee5edfcd6"), looks := false }, kinds := [], alts := [], laidByText := true, laidKinds := [.data, .pinned], laidTests := true, laidLooks := .later }
def PlaceSpreadsCardSaid : Prop := Claim7.holds Tryd.pinned (.plain (OpenSpec.ofChange placeSpreadsSpec)) placeSpreadsCard

/-- THE TIED CARD OF 'offsidelaw02.PlaceStays'. -/
def placeStaysCard : Claim7 := { stood := { row := placeStaysRow, standIns := [], harness := (true, "cf52a15ae8134552100143372ec5c70d6b9cc7c4120c1c625338ce6ee5edfcd6"), looks := false }, kinds := [], alts := [], laidByText := true, laidKinds := [.data, .pinned], laidTests := true, laidLooks := .later }
def PlaceStaysCardSaid : Prop := Claim7.holds Tryd.pinned (.plain (OpenSpec.ofChange placeStaysSpec)) placeStaysCard

/-- THE SECOND FORM's CARD OF 'offsidelaw02.PlaceOf'. -/
def placeOfUptoCard : Claim7 := { stood := { row := placeOfUptoRow, standIns := [], harness := (true, "cf52a15ae8134552100143372ec5c70d6b9cc7c4120c1c625338ce6ee5edfcd6"), looks := false }, kinds := [], alts := [], laidByText := true, laidKinds := [.data, .pinned], laidTests := true, laidLooks := .later }
def PlaceOfUptoCardSaid : Prop := Claim7.holds Tryd.pinned (.plain (OpenSpec.upto placeOfSpec)) placeOfUptoCard

/-- THE SECOND FORM's CARD OF 'offsidelaw02.PlaceLines'. -/
def placeLinesUptoCard : Claim7 := { stood := { row := placeLinesUptoRow, standIns := [], harness := (true, "cf52a15ae8134552100143372ec5c70d6b9cc7c4120c1c625338ce6ee5edfcd6"), looks := false }, kinds := [], alts := [], laidByText := true, laidKinds := [.data, .pinned], laidTests := true, laidLooks := .later }
def PlaceLinesUptoCardSaid : Prop := Claim7.holds Tryd.pinned (.plain (OpenSpec.upto placeLinesSpec)) placeLinesUptoCard

/-- THE SECOND FORM's CARD OF 'offsidelaw02.PlaceRises'. -/
def placeRisesUptoCard : Claim7 := { stood := { row := placeRisesUptoRow, standIns := [], harness := (true, "cf52a15ae8134552100143372ec5c70d6b9cc7c4120c1c625338ce6ee5edfcd6"), looks := false }, kinds := [], alts := [], laidByText := true, laidKinds := [.data, .pinned], laidTests := true, laidLooks := .later }
def PlaceRisesUptoCardSaid : Prop := Claim7.holds Tryd.pinned (.plain (OpenSpec.upto placeRisesSpec)) placeRisesUptoCard

/-- THE SECOND FORM's CARD OF 'offsidelaw02.PlaceWidths'. -/
def placeWidthsUptoCard : Claim7 := { stood := { row := placeWidthsUptoRow, standIns := [], harness := (true, "cf52a15ae8134552100143372ec5c70d6b9cc7c4120c1c625338ce6ee5edfcd6"), looks := false }, kinds := [], alts := [], laidByText := true, laidKinds := [.data, .pinned], laidTests := true, laidLooks := .later }
def PlaceWidthsUptoCardSaid : Prop := Claim7.holds Tryd.pinned (.plain (OpenSpec.upto placeWidthsSpec)) placeWidthsUptoCard

/-- THE SECOND FORM's CARD OF 'offsidelaw02.PlaceCounts'. -/
def placeCountsUptoCard : Claim7 := { stood := { row := placeCountsUptoRow, standIns := [], harness := (true, "cf52a15ae8134552100143372ec5c70d6b9cc7c4120c1c625338ce6ee5edfcd6"), looks := false }, kinds := [], alts := [], laidByText := true, laidKinds := [.data, .pinned], laidTests := true, laidLooks := .later }
def PlaceCountsUptoCardSaid : Prop := Claim7.holds Tryd.pinned (.plain (OpenSpec.upto placeCountsSpec)) placeCountsUptoCard

/-- THE SECOND FORM's CARD OF 'offsidelaw02.PlaceSpreads'. -/
def placeSpreadsUptoCard : Claim7 := { stood := { row := placeSpreadsUptoRow, standIns := [], harness := (true, "cf52a15ae8134552100143372ec5c70d6b9cc7c4120c1c625338ce6ee5edfcd6"), looks := false }, kinds := [], alts := [], laidByText := true, laidKinds := [.data, .pinned], laidTests := true, laidLooks := .later }
def PlaceSpreadsUptoCardSaid : Prop := Claim7.holds Tryd.pinned (.plain (OpenSpec.upto placeSpreadsSpec)) placeSpreadsUptoCard

/-- THE SECOND FORM's CARD OF 'offsidelaw02.PlaceStays'. -/
def placeStaysUptoCard : Claim7 := { stood := { row := placeStaysUptoRow, standIns := [], harness := (true, "cf52a15ae8134552100143372ec5c70d6b9cc7c4120c1c625338ce6ee5edfcd6"), looks := false }, kinds := [], alts := [], laidByText := true, laidKinds := [.data, .pinned], laidTests := true, laidLooks := .later }
def PlaceStaysUptoCardSaid : Prop := Claim7.holds Tryd.pinned (.plain (OpenSpec.upto placeStaysSpec)) placeStaysUptoCard
end Rows
end Go.Proofs.YtmbgfchbjedjnaaDoor
