/-
  DERIVED. GIVEN WITH THE SEED: THE CARDS: each row of YthcogfceighbpaaDoorRows.lean that lists a variable, with what it lists TIED to the program's text (the seventh form; the later family's looks); each row that meets fmt, with fmt's text TOLD by the authors' own Lean function (tested against real Go, not proved from fmt's source: count such statements apart). THE CARD IS WHAT COUNTS. Prove the row's statement (the work); the ties are given (YthcogfceighbpaaDoorTie.lean); close each card by the builder's one call (the guide's Derived/Test/ToyasCard.lean, 'card_holds'). Laid BY PROGRAM, IN A SANDBOX (cutbox-door.mjs). By AI agents, Wed Nov 11 2026. No macro, syntax, notation, axiom, sorry.
-/
import Derived.Test.YthcogfceighbpaaDoorRows
import GoSem.ClaimSeven
namespace Go.Proofs.YthcogfceighbpaaDoor
namespace Rows

/-- THE TIED CARD OF 'offsidelaw04.NumberScans'. -/
def numberScansCard : Claim7 := { stood := { row := numberScansRow, standIns := [], harness := (true, "e7798d2885dcb4987e7ef2b18ba76a59402bbae2550042cc12570cba6266f9f0"), looks := false }, kinds := [], alts := [], laidByText := true, laidKinds := [.data, .data, .data, .data, .pinned], laidTests := true, laidLooks := .later }
def NumberScansCardSaid : Prop := Claim7.holds Tryd.pinned (.plain (OpenSpec.ofChange numberScansSpec)) numberScansCard

/-- THE TIED CARD OF 'offsidelaw04.NumberValues'. -/
def numberValuesCard : Claim7 := { stood := { row := numberValuesRow, standIns := [], harness := (true, "e7798d2885dcb4987e7ef2b18ba76a59402bbae2550042cc12570cba6266f9f0"), looks := false }, kinds := [], alts := [], laidByText := true, laidKinds := [.data, .data, .data, .data, .pinned], laidTests := true, laidLooks := .later }
def NumberValuesCardSaid : Prop := Claim7.holds Tryd.pinned (.plain (OpenSpec.ofChange numberValuesSpec)) numberValuesCard

/-- THE TIED CARD OF 'offsidelaw04.NumberDecimals'. -/
def numberDecimalsCard : Claim7 := { stood := { row := numberDecimalsRow, standIns := [], harness := (true, "e7798d2885dcb4987e7ef2b18ba76a59402bbae2550042cc12570cba6266f9f0"), looks := false }, kinds := [], alts := [], laidByText := true, laidKinds := [.data, .data, .data, .data, .pinned], laidTests := true, laidLooks := .later }
def NumberDecimalsCardSaid : Prop := Claim7.holds Tryd.pinned (.plain (OpenSpec.ofChange numberDecimalsSpec)) numberDecimalsCard

/-- THE TIED CARD OF 'offsidelaw04.NumberFloats'. -/
def numberFloatsCard : Claim7 := { stood := { row := numberFloatsRow, standIns := [], harness := (true, "e7798d2885dcb4987e7ef2b18ba76a59402bbae2550042cc12570cba6266f9f0"), looks := false }, kinds := [], alts := [], laidByText := true, laidKinds := [.data, .data, .data, .data, .pinned], laidTests := true, laidLooks := .later }
def NumberFloatsCardSaid : Prop := Claim7.holds Tryd.pinned (.plain (OpenSpec.ofChange numberFloatsSpec)) numberFloatsCard

/-- THE TIED CARD OF 'offsidelaw04.NumberSames'. -/
def numberSamesCard : Claim7 := { stood := { row := numberSamesRow, standIns := [], harness := (true, "e7798d2885dcb4987e7ef2b18ba76a59402bbae2550042cc12570cba6266f9f0"), looks := false }, kinds := [], alts := [], laidByText := true, laidKinds := [.data, .data, .data, .data, .pinned], laidTests := true, laidLooks := .later }
def NumberSamesCardSaid : Prop := Claim7.holds Tryd.pinned (.plain (OpenSpec.ofChange numberSamesSpec)) numberSamesCard

/-- THE TIED CARD OF 'offsidelaw04.NumberBack'. -/
def numberBackCard : Claim7 := { stood := { row := numberBackRow, standIns := [], harness := (true, "e7798d2885dcb4987e7ef2b18ba76a59402bbae2550042cc12570cba6266f9f0"), looks := false }, kinds := [], alts := [], laidByText := true, laidKinds := [.data, .data, .data, .data, .pinned], laidTests := true, laidLooks := .later }
def NumberBackCardSaid : Prop := Claim7.holds Tryd.pinned (.plain (OpenSpec.ofChange numberBackSpec)) numberBackCard

/-- THE TIED CARD OF 'offsidelaw04.NumberAlone'. -/
def numberAloneCard : Claim7 := { stood := { row := numberAloneRow, standIns := [], harness := (true, "e7798d2885dcb4987e7ef2b18ba76a59402bbae2550042cc12570cba6266f9f0"), looks := false }, kinds := [], alts := [], laidByText := true, laidKinds := [.data, .data, .data, .data, .pinned], laidTests := true, laidLooks := .later }
def NumberAloneCardSaid : Prop := Claim7.holds Tryd.pinned (.plain (OpenSpec.ofChange numberAloneSpec)) numberAloneCard

/-- THE TIED CARD OF 'offsidelaw04.NumberNoughts'. -/
def numberNoughtsCard : Claim7 := { stood := { row := numberNoughtsRow, standIns := [], harness := (true, "e7798d2885dcb4987e7ef2b18ba76a59402bbae2550042cc12570cba6266f9f0"), looks := false }, kinds := [], alts := [], laidByText := true, laidKinds := [.data, .data, .data, .data, .pinned], laidTests := true, laidLooks := .later }
def NumberNoughtsCardSaid : Prop := Claim7.holds Tryd.pinned (.plain (OpenSpec.ofChange numberNoughtsSpec)) numberNoughtsCard

/-- THE SECOND FORM's CARD OF 'offsidelaw04.NumberScans'. -/
def numberScansUptoCard : Claim7 := { stood := { row := numberScansUptoRow, standIns := [], harness := (true, "e7798d2885dcb4987e7ef2b18ba76a59402bbae2550042cc12570cba6266f9f0"), looks := false }, kinds := [], alts := [], laidByText := true, laidKinds := [.data, .data, .data, .data, .pinned], laidTests := true, laidLooks := .later }
def NumberScansUptoCardSaid : Prop := Claim7.holds Tryd.pinned (.plain (OpenSpec.upto numberScansSpec)) numberScansUptoCard

/-- THE SECOND FORM's CARD OF 'offsidelaw04.NumberValues'. -/
def numberValuesUptoCard : Claim7 := { stood := { row := numberValuesUptoRow, standIns := [], harness := (true, "e7798d2885dcb4987e7ef2b18ba76a59402bbae2550042cc12570cba6266f9f0"), looks := false }, kinds := [], alts := [], laidByText := true, laidKinds := [.data, .data, .data, .data, .pinned], laidTests := true, laidLooks := .later }
def NumberValuesUptoCardSaid : Prop := Claim7.holds Tryd.pinned (.plain (OpenSpec.upto numberValuesSpec)) numberValuesUptoCard

/-- THE SECOND FORM's CARD OF 'offsidelaw04.NumberDecimals'. -/
def numberDecimalsUptoCard : Claim7 := { stood := { row := numberDecimalsUptoRow, standIns := [], harness := (true, "e7798d2885dcb4987e7ef2b18ba76a59402bbae2550042cc12570cba6266f9f0"), looks := false }, kinds := [], alts := [], laidByText := true, laidKinds := [.data, .data, .data, .data, .pinned], laidTests := true, laidLooks := .later }
def NumberDecimalsUptoCardSaid : Prop := Claim7.holds Tryd.pinned (.plain (OpenSpec.upto numberDecimalsSpec)) numberDecimalsUptoCard

/-- THE SECOND FORM's CARD OF 'offsidelaw04.NumberFloats'. -/
def numberFloatsUptoCard : Claim7 := { stood := { row := numberFloatsUptoRow, standIns := [], harness := (true, "e7798d2885dcb4987e7ef2b18ba76a59402bbae2550042cc12570cba6266f9f0"), looks := false }, kinds := [], alts := [], laidByText := true, laidKinds := [.data, .data, .data, .data, .pinned], laidTests := true, laidLooks := .later }
def NumberFloatsUptoCardSaid : Prop := Claim7.holds Tryd.pinned (.plain (OpenSpec.upto numberFloatsSpec)) numberFloatsUptoCard

/-- THE SECOND FORM's CARD OF 'offsidelaw04.NumberSames'. -/
def numberSamesUptoCard : Claim7 := { stood := { row := numberSamesUptoRow, standIns := [], harness := (true, "e7798d2885dcb4987e7ef2b18ba76a59402bbae2550042cc12570cba6266f9f0"), looks := false }, kinds := [], alts := [], laidByText := true, laidKinds := [.data, .data, .data, .data, .pinned], laidTests := true, laidLooks := .later }
def NumberSamesUptoCardSaid : Prop := Claim7.holds Tryd.pinned (.plain (OpenSpec.upto numberSamesSpec)) numberSamesUptoCard

/-- THE SECOND FORM's CARD OF 'offsidelaw04.NumberBack'. -/
def numberBackUptoCard : Claim7 := { stood := { row := numberBackUptoRow, standIns := [], harness := (true, "e7798d2885dcb4987e7ef2b18ba76a59402bbae2550042cc12570cba6266f9f0"), looks := false }, kinds := [], alts := [], laidByText := true, laidKinds := [.data, .data, .data, .data, .pinned], laidTests := true, laidLooks := .later }
def NumberBackUptoCardSaid : Prop := Claim7.holds Tryd.pinned (.plain (OpenSpec.upto numberBackSpec)) numberBackUptoCard

/-- THE SECOND FORM's CARD OF 'offsidelaw04.NumberAlone'. -/
def numberAloneUptoCard : Claim7 := { stood := { row := numberAloneUptoRow, standIns := [], harness := (true, "e7798d2885dcb4987e7ef2b18ba76a59402bbae2550042cc12570cba6266f9f0"), looks := false }, kinds := [], alts := [], laidByText := true, laidKinds := [.data, .data, .data, .data, .pinned], laidTests := true, laidLooks := .later }
def NumberAloneUptoCardSaid : Prop := Claim7.holds Tryd.pinned (.plain (OpenSpec.upto numberAloneSpec)) numberAloneUptoCard

/-- THE SECOND FORM's CARD OF 'offsidelaw04.NumberNoughts'. -/
def numberNoughtsUptoCard : Claim7 := { stood := { row := numberNoughtsUptoRow, standIns := [], harness := (true, "e7798d2885dcb4987e7ef2b18ba76a59402bbae2550042cc12570cba6266f9f0"), looks := false }, kinds := [], alts := [], laidByText := true, laidKinds := [.data, .data, .data, .data, .pinned], laidTests := true, laidLooks := .later }
def NumberNoughtsUptoCardSaid : Prop := Claim7.holds Tryd.pinned (.plain (OpenSpec.upto numberNoughtsSpec)) numberNoughtsUptoCard
end Rows
end Go.Proofs.YthcogfceighbpaaDoor
