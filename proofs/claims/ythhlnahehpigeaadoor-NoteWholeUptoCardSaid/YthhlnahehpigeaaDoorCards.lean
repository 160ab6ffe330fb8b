/-
  DERIVED. GIVEN WITH THE SEED: THE CARDS: each row of YthhlnahehpigeaaDoorRows.lean that lists a variable, with what it lists TIED to the program's text (the seventh form; the later family's looks); each row that meets fmt, with fmt's text TOLD by the authors' own Lean function (tested against real Go, not proved from fmt's source: count such statements apart). THE CARD IS WHAT COUNTS. Prove the row's statement (the work); the ties are given (YthhlnahehpigeaaDoorTie.lean); close each card by the builder's one call (the guide's Derived/Test/ToyasCard.lean, 'card_holds'). Laid BY PROGRAM, IN A SANDBOX (cutbox-door.mjs). By AI agents, Wed Nov 11 2026. No macro, syntax, notation, axiom, sorry.
-/
import Derived.Test.YthhlnahehpigeaaDoorRows
import GoSem.ClaimSeven
namespace Go.Proofs.YthhlnahehpigeaaDoor
namespace Rows

/-- THE TIED CARD OF 'offsidelaw06.NoteScans'. -/
def noteScansCard : Claim7 := { stood := { row := noteScansRow, standIns := [], harness := (true, "41b8f3be4978bf922794d73bbb72b6edd1c25b958ac0f6675413d0bbcffbd9ce"), looks := false }, kinds := [], alts := [], laidByText := true, laidKinds := [.data, .pinned], laidTests := true, laidLooks := .later }
def NoteScansCardSaid : Prop := Claim7.holds Tryd.pinned (.plain (OpenSpec.ofChange noteScansSpec)) noteScansCard

/-- THE TIED CARD OF 'offsidelaw06.NoteKinds'. -/
def noteKindsCard : Claim7 := { stood := { row := noteKindsRow, standIns := [], harness := (true, "41b8f3be4978bf922794d73bbb72b6edd1c25b958ac0f6675413d0bbcffbd9ce"), looks := false }, kinds := [], alts := [], laidByText := true, laidKinds := [.data, .pinned], laidTests := true, laidLooks := .later }
def NoteKindsCardSaid : Prop := Claim7.holds Tryd.pinned (.plain (OpenSpec.ofChange noteKindsSpec)) noteKindsCard

/-- THE TIED CARD OF 'offsidelaw06.NoteLines'. -/
def noteLinesCard : Claim7 := { stood := { row := noteLinesRow, standIns := [], harness := (true, "41b8f3be4978bf922794d73bbb72b6edd1c25b958ac0f6675413d0bbcffbd9ce"), looks := false }, kinds := [], alts := [], laidByText := true, laidKinds := [.data, .pinned], laidTests := true, laidLooks := .later }
def NoteLinesCardSaid : Prop := Claim7.holds Tryd.pinned (.plain (OpenSpec.ofChange noteLinesSpec)) noteLinesCard

/-- THE TIED CARD OF 'offsidelaw06.NoteTidies'. -/
def noteTidiesCard : Claim7 := { stood := { row := noteTidiesRow, standIns := [], harness := (true, "41b8f3be4978bf922794d73bbb72b6edd1c25b958ac0f6675413d0bbcffbd9ce"), looks := false }, kinds := [], alts := [], laidByText := true, laidKinds := [.data, .pinned], laidTests := true, laidLooks := .later }
def NoteTidiesCardSaid : Prop := Claim7.holds Tryd.pinned (.plain (OpenSpec.ofChange noteTidiesSpec)) noteTidiesCard

/-- THE TIED CARD OF 'offsidelaw06.NoteClean'. -/
def noteCleanCard : Claim7 := { stood := { row := noteCleanRow, standIns := [], harness := (true, "41b8f3be4978bf922794d73bbb72b6edd1c25b958ac0f6675413d0bbcffbd9ce"), looks := false }, kinds := [], alts := [], laidByText := true, laidKinds := [.data, .pinned], laidTests := true, laidLooks := .later }
def NoteCleanCardSaid : Prop := Claim7.holds Tryd.pinned (.plain (OpenSpec.ofChange noteCleanSpec)) noteCleanCard

/-- THE TIED CARD OF 'offsidelaw06.NoteWhole'. -/
def noteWholeCard : Claim7 := { stood := { row := noteWholeRow, standIns := [], harness := (true, "41b8f3be4978bf922794d73bbb72b6edd1c25b958ac0f6675413d0bbcffbd9ce"), looks := false }, kinds := [], alts := [], laidByText := true, laidKinds := [.data, .pinned], laidTests := true, laidLooks := .later }
def NoteWholeCardSaid : Prop := Claim7.holds Tryd.pinned (.plain (OpenSpec.ofChange noteWholeSpec)) noteWholeCard

/-- THE TIED CARD OF 'offsidelaw06.NoteSames'. -/
def noteSamesCard : Claim7 := { stood := { row := noteSamesRow, standIns := [], harness := (true, "41b8f3be4978bf922794d73bbb72b6edd1c25b958ac0f6675413d0bbcffbd9ce"), looks := false }, kinds := [], alts := [], laidByText := true, laidKinds := [.data, .pinned], laidTests := true, laidLooks := .later }
def NoteSamesCardSaid : Prop := Claim7.holds Tryd.pinned (.plain (OpenSpec.ofChange noteSamesSpec)) noteSamesCard

/-- THE TIED CARD OF 'offsidelaw06.NoteStays'. -/
def noteStaysCard : Claim7 := { stood := { row := noteStaysRow, standIns := [], harness := (true, "41b8f3be4978bf922794d73bbb72b6edd1c25b958ac0f6675413d0bbcffbd9ce"), looks := false }, kinds := [], alts := [], laidByText := true, laidKinds := [.data, .pinned], laidTests := true, laidLooks := .later }
def NoteStaysCardSaid : Prop := Claim7.holds Tryd.pinned (.plain (OpenSpec.ofChange noteStaysSpec)) noteStaysCard

/-- THE SECOND FORM's CARD OF 'offsidelaw06.NoteScans'. -/
def noteScansUptoCard : Claim7 := { stood := { row := noteScansUptoRow, standIns := [], harness := (true, "41b8f3be4978bf922794d73bbb72b6edd1c25b958ac0f6675413d0bbcffbd9ce"), looks := false }, kinds := [], alts := [], laidByText := true, laidKinds := [.data, .pinned], laidTests := true, laidLooks := .later }
def NoteScansUptoCardSaid : Prop := Claim7.holds Tryd.pinned (.plain (OpenSpec.upto noteScansSpec)) noteScansUptoCard

/-- THE SECOND FORM's CARD OF 'offsidelaw06.NoteKinds'. -/
def noteKindsUptoCard : Claim7 := { stood := { row := noteKindsUptoRow, standIns := [], harness := (true, "41b8f3be4978bf922794d73bbb72b6edd1c25b958ac0f6675413d0bbcffbd9ce"), looks := false }, kinds := [], alts := [], laidByText := true, laidKinds := [.data, .pinned], laidTests := true, laidLooks := .later }
def NoteKindsUptoCardSaid : Prop := Claim7.holds Tryd.pinned (.plain (OpenSpec.upto noteKindsSpec)) noteKindsUptoCard

/-- THE SECOND FORM's CARD OF 'offsidelaw06.NoteLines'. -/
def noteLinesUptoCard : Claim7 := { stood := { row := noteLinesUptoRow, standIns := [], harness := (true, "41b8f3be4978bf922794d73bbb72b6edd1c25b958ac0f6675413d0bbcffbd9ce"), looks := false }, kinds := [], alts := [], laidByText := true, laidKinds := [.data, .pinned], laidTests := true, laidLooks := .later }
def NoteLinesUptoCardSaid : Prop := Claim7.holds Tryd.pinned (.plain (OpenSpec.upto noteLinesSpec)) noteLinesUptoCard

/-- THE SECOND FORM's CARD OF 'offsidelaw06.NoteTidies'. -/
def noteTidiesUptoCard : Claim7 := { stood := { row := noteTidiesUptoRow, standIns := [], harness := (true, "41b8f3be4978bf922794d73bbb72b6edd1c25b958ac0f6675413d0bbcffbd9ce"), looks := false }, kinds := [], alts := [], laidByText := true, laidKinds := [.data, .pinned], laidTests := true, laidLooks := .later }
def NoteTidiesUptoCardSaid : Prop := Claim7.holds Tryd.pinned (.plain (OpenSpec.upto noteTidiesSpec)) noteTidiesUptoCard

/-- THE SECOND FORM's CARD OF 'offsidelaw06.NoteClean'. -/
def noteCleanUptoCard : Claim7 := { stood := { row := noteCleanUptoRow, standIns := [], harness := (true, "41b8f3be4978bf922794d73bbb72b6edd1c25b958ac0f6675413d0bbcffbd9ce"), looks := false }, kinds := [], alts := [], laidByText := true, laidKinds := [.data, .pinned], laidTests := true, laidLooks := .later }
def NoteCleanUptoCardSaid : Prop := Claim7.holds Tryd.pinned (.plain (OpenSpec.upto noteCleanSpec)) noteCleanUptoCard

/-- THE SECOND FORM's CARD OF 'offsidelaw06.NoteWhole'. -/
def noteWholeUptoCard : Claim7 := { stood := { row := noteWholeUptoRow, standIns := [], harness := (true, "41b8f3be4978bf922794d73bbb72b6edd1c25b958ac0f6675413d0bbcffbd9ce"), looks := false }, kinds := [], alts := [], laidByText := true, laidKinds := [.data, .pinned], laidTests := true, laidLooks := .later }
def NoteWholeUptoCardSaid : Prop := Claim7.holds Tryd.pinned (.plain (OpenSpec.upto noteWholeSpec)) noteWholeUptoCard

/-- THE SECOND FORM's CARD OF 'offsidelaw06.NoteSames'. -/
def noteSamesUptoCard : Claim7 := { stood := { row := noteSamesUptoRow, standIns := [], harness := (true, "41b8f3be4978bf922794d73bbb72b6edd1c25b958ac0f6675413d0bbcffbd9ce"), looks := false }, kinds := [], alts := [], laidByText := true, laidKinds := [.data, .pinned], laidTests := true, laidLooks := .later }
def NoteSamesUptoCardSaid : Prop := Claim7.holds Tryd.pinned (.plain (OpenSpec.upto noteSamesSpec)) noteSamesUptoCard

/-- THE SECOND FORM's CARD OF 'offsidelaw06.NoteStays'. -/
def noteStaysUptoCard : Claim7 := { stood := { row := noteStaysUptoRow, standIns := [], harness := (true, "41b8f3be4978bf922794d73bbb72b6edd1c25b958ac0f6675413d0bbcffbd9ce"), looks := false }, kinds := [], alts := [], laidByText := true, laidKinds := [.data, .pinned], laidTests := true, laidLooks := .later }
def NoteStaysUptoCardSaid : Prop := Claim7.holds Tryd.pinned (.plain (OpenSpec.upto noteStaysSpec)) noteStaysUptoCard
end Rows
end Go.Proofs.YthhlnahehpigeaaDoor
