/-
  DERIVED. GIVEN WITH THE SEED: THE CARDS: each row of YtimcnmmkccdcdaaDoorRows.lean that lists a variable, with what it lists TIED to the program's text (the seventh form; the later family's looks); each row that meets fmt, with fmt's text TOLD by the authors' own Lean function (tested against real Go, not proved from fmt's source: count such statements apart). THE CARD IS WHAT COUNTS. Prove the row's statement (the work); the ties are given (YtimcnmmkccdcdaaDoorTie.lean); close each card by the builder's one call (the guide's Derived/Test/ToyasCard.lean, 'card_holds'). Laid BY PROGRAM, IN A SANDBOX (cutbox-door.mjs). By AI agents, Wed Nov 11 2026. No macro, syntax, notation, axiom, sorry.
-/
import Derived.Test.YtimcnmmkccdcdaaDoorRows
import GoSem.ClaimSeven
namespace Go.Proofs.YtimcnmmkccdcdaaDoor
namespace Rows

/-- THE TIED CARD OF 'offsidelaw01.GlyphNexts'. -/
def glyphNextsCard : Claim7 := { stood := { row := glyphNextsRow, standIns := [], harness := (true, "ed4d1c3c183886067ffcc9d8d672be9a76ac53b298d7cbbbc77b5ed4566fb216"), looks := false }, kinds := [], alts := [], laidByText := true, laidKinds := [.data, .pinned], laidTests := true, laidLooks := .later }
def GlyphNextsCardSaid : Prop := Claim7.holds Tryd.pinned (.plain (OpenSpec.ofChange glyphNextsSpec)) glyphNextsCard

/-- THE TIED CARD OF 'offsidelaw01.GlyphClasses'. -/
def glyphClassesCard : Claim7 := { stood := { row := glyphClassesRow, standIns := [], harness := (true, "ed4d1c3c183886067ffcc9d8d672be9a76ac53b298d7cbbbc77b5ed4566fb216"), looks := false }, kinds := [], alts := [], laidByText := true, laidKinds := [.data, .pinned], laidTests := true, laidLooks := .later }
def GlyphClassesCardSaid : Prop := Claim7.holds Tryd.pinned (.plain (OpenSpec.ofChange glyphClassesSpec)) glyphClassesCard

/-- THE TIED CARD OF 'offsidelaw01.GlyphDigits'. -/
def glyphDigitsCard : Claim7 := { stood := { row := glyphDigitsRow, standIns := [], harness := (true, "ed4d1c3c183886067ffcc9d8d672be9a76ac53b298d7cbbbc77b5ed4566fb216"), looks := false }, kinds := [], alts := [], laidByText := true, laidKinds := [.data, .pinned], laidTests := true, laidLooks := .later }
def GlyphDigitsCardSaid : Prop := Claim7.holds Tryd.pinned (.plain (OpenSpec.ofChange glyphDigitsSpec)) glyphDigitsCard

/-- THE TIED CARD OF 'offsidelaw01.GlyphPieces'. -/
def glyphPiecesCard : Claim7 := { stood := { row := glyphPiecesRow, standIns := [], harness := (true, "ed4d1c3c183886067ffcc9d8d672be9a76ac53b298d7cbbbc77b5ed4566fb216"), looks := false }, kinds := [], alts := [], laidByText := true, laidKinds := [.data, .pinned], laidTests := true, laidLooks := .later }
def GlyphPiecesCardSaid : Prop := Claim7.holds Tryd.pinned (.plain (OpenSpec.ofChange glyphPiecesSpec)) glyphPiecesCard

/-- THE TIED CARD OF 'offsidelaw01.GlyphChecks'. -/
def glyphChecksCard : Claim7 := { stood := { row := glyphChecksRow, standIns := [], harness := (true, "ed4d1c3c183886067ffcc9d8d672be9a76ac53b298d7cbbbc77b5ed4566fb216"), looks := false }, kinds := [], alts := [], laidByText := true, laidKinds := [.data, .pinned], laidTests := true, laidLooks := .later }
def GlyphChecksCardSaid : Prop := Claim7.holds Tryd.pinned (.plain (OpenSpec.ofChange glyphChecksSpec)) glyphChecksCard

/-- THE TIED CARD OF 'offsidelaw01.GlyphJoined'. -/
def glyphJoinedCard : Claim7 := { stood := { row := glyphJoinedRow, standIns := [], harness := (true, "ed4d1c3c183886067ffcc9d8d672be9a76ac53b298d7cbbbc77b5ed4566fb216"), looks := false }, kinds := [], alts := [], laidByText := true, laidKinds := [.data, .pinned], laidTests := true, laidLooks := .later }
def GlyphJoinedCardSaid : Prop := Claim7.holds Tryd.pinned (.plain (OpenSpec.ofChange glyphJoinedSpec)) glyphJoinedCard

/-- THE SECOND FORM's CARD OF 'offsidelaw01.GlyphNexts'. -/
def glyphNextsUptoCard : Claim7 := { stood := { row := glyphNextsUptoRow, standIns := [], harness := (true, "ed4d1c3c183886067ffcc9d8d672be9a76ac53b298d7cbbbc77b5ed4566fb216"), looks := false }, kinds := [], alts := [], laidByText := true, laidKinds := [.data, .pinned], laidTests := true, laidLooks := .later }
def GlyphNextsUptoCardSaid : Prop := Claim7.holds Tryd.pinned (.plain (OpenSpec.upto glyphNextsSpec)) glyphNextsUptoCard

/-- THE SECOND FORM's CARD OF 'offsidelaw01.GlyphClasses'. -/
def glyphClassesUptoCard : Claim7 := { stood := { row := glyphClassesUptoRow, standIns := [], harness := (true, "ed4d1c3c183886067ffcc9d8d672be9a76ac53b298d7cbbbc77b5ed4566fb216"), looks := false }, kinds := [], alts := [], laidByText := true, laidKinds := [.data, .pinned], laidTests := true, laidLooks := .later }
def GlyphClassesUptoCardSaid : Prop := Claim7.holds Tryd.pinned (.plain (OpenSpec.upto glyphClassesSpec)) glyphClassesUptoCard

/-- THE SECOND FORM's CARD OF 'offsidelaw01.GlyphDigits'. -/
def glyphDigitsUptoCard : Claim7 := { stood := { row := glyphDigitsUptoRow, standIns := [], harness := (true, "ed4d1c3c183886067ffcc9d8d672be9a76ac53b298d7cbbbc77b5ed4566fb216"), looks := false }, kinds := [], alts := [], laidByText := true, laidKinds := [.data, .pinned], laidTests := true, laidLooks := .later }
def GlyphDigitsUptoCardSaid : Prop := Claim7.holds Tryd.pinned (.plain (OpenSpec.upto glyphDigitsSpec)) glyphDigitsUptoCard

/-- THE SECOND FORM's CARD OF 'offsidelaw01.GlyphPieces'. -/
def glyphPiecesUptoCard : Claim7 := { stood := { row := glyphPiecesUptoRow, standIns := [], harness := (true, "ed4d1c3c183886067ffcc9d8d672be9a76ac53b298d7cbbbc77b5ed4566fb216"), looks := false }, kinds := [], alts := [], laidByText := true, laidKinds := [.data, .pinned], laidTests := true, laidLooks := .later }
def GlyphPiecesUptoCardSaid : Prop := Claim7.holds Tryd.pinned (.plain (OpenSpec.upto glyphPiecesSpec)) glyphPiecesUptoCard

/-- THE SECOND FORM's CARD OF 'offsidelaw01.GlyphChecks'. -/
def glyphChecksUptoCard : Claim7 := { stood := { row := glyphChecksUptoRow, standIns := [], harness := (true, "ed4d1c3c183886067ffcc9d8d672be9a76ac53b298d7cbbbc77b5ed4566fb216"), looks := false }, kinds := [], alts := [], laidByText := true, laidKinds := [.data, .pinned], laidTests := true, laidLooks := .later }
def GlyphChecksUptoCardSaid : Prop := Claim7.holds Tryd.pinned (.plain (OpenSpec.upto glyphChecksSpec)) glyphChecksUptoCard

/-- THE SECOND FORM's CARD OF 'offsidelaw01.GlyphJoined'. -/
def glyphJoinedUptoCard : Claim7 := { stood := { row := glyphJoinedUptoRow, standIns := [], harness := (true, "ed4d1c3c183886067ffcc9d8d672be9a76ac53b298d7cbbbc77b5ed4566fb216"), looks := false }, kinds := [], alts := [], laidByText := true, laidKinds := [.data, .pinned], laidTests := true, laidLooks := .later }
def GlyphJoinedUptoCardSaid : Prop := Claim7.holds Tryd.pinned (.plain (OpenSpec.upto glyphJoinedSpec)) glyphJoinedUptoCard
end Rows
end Go.Proofs.YtimcnmmkccdcdaaDoor
