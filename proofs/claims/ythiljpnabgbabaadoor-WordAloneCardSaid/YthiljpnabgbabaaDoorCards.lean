/-
  DERIVED. GIVEN WITH THE SEED: THE CARDS: each row of YthiljpnabgbabaaDoorRows.lean that lists a variable, with what it lists TIED to the program's text (the seventh form; the later family's looks); each row that meets fmt, with fmt's text TOLD by the authors' own Lean function (tested against real Go, not proved from fmt's source: count such statements apart). THE CARD IS WHAT COUNTS. Prove the row's statement (the work); the ties are given (YthiljpnabgbabaaDoorTie.lean); close each card by the builder's one call (the guide's Derived/Test/ToyasCard.lean, 'card_holds'). Laid BY PROGRAM, IN A SANDBOX (cutbox-door.mjs). By AI agents, Wed Nov 11 2026. No macro, syntax, notation, axiom, sorry.
-/
import Derived.Test.YthiljpnabgbabaaDoorRows
import GoSem.ClaimSeven
namespace Go.Proofs.YthiljpnabgbabaaDoor
namespace Rows

/-- THE TIED CARD OF 'offsidelaw03.WordScans'. -/
def wordScansCard : Claim7 := { stood := { row := wordScansRow, standIns := [], harness := (true, "d5019fd026b6e8d98c0feb56d0772a4224a97093302b70aa0b34c1df6e492526"), looks := false }, kinds := [], alts := [], laidByText := true, laidKinds := [.data, .pinned], laidTests := true, laidLooks := .later }
def WordScansCardSaid : Prop := Claim7.holds Tryd.pinned (.plain (OpenSpec.ofChange wordScansSpec)) wordScansCard

/-- THE TIED CARD OF 'offsidelaw03.WordKinds'. -/
def wordKindsCard : Claim7 := { stood := { row := wordKindsRow, standIns := [], harness := (true, "d5019fd026b6e8d98c0feb56d0772a4224a97093302b70aa0b34c1df6e492526"), looks := false }, kinds := [], alts := [], laidByText := true, laidKinds := [.data, .pinned], laidTests := true, laidLooks := .later }
def WordKindsCardSaid : Prop := Claim7.holds Tryd.pinned (.plain (OpenSpec.ofChange wordKindsSpec)) wordKindsCard

/-- THE TIED CARD OF 'offsidelaw03.WordSplits'. -/
def wordSplitsCard : Claim7 := { stood := { row := wordSplitsRow, standIns := [], harness := (true, "d5019fd026b6e8d98c0feb56d0772a4224a97093302b70aa0b34c1df6e492526"), looks := false }, kinds := [], alts := [], laidByText := true, laidKinds := [.data, .pinned], laidTests := true, laidLooks := .later }
def WordSplitsCardSaid : Prop := Claim7.holds Tryd.pinned (.plain (OpenSpec.ofChange wordSplitsSpec)) wordSplitsCard

/-- THE TIED CARD OF 'offsidelaw03.WordAparts'. -/
def wordApartsCard : Claim7 := { stood := { row := wordApartsRow, standIns := [], harness := (true, "d5019fd026b6e8d98c0feb56d0772a4224a97093302b70aa0b34c1df6e492526"), looks := false }, kinds := [], alts := [], laidByText := true, laidKinds := [.data, .pinned], laidTests := true, laidLooks := .later }
def WordApartsCardSaid : Prop := Claim7.holds Tryd.pinned (.plain (OpenSpec.ofChange wordApartsSpec)) wordApartsCard

/-- THE TIED CARD OF 'offsidelaw03.WordAlone'. -/
def wordAloneCard : Claim7 := { stood := { row := wordAloneRow, standIns := [], harness := (true, "d5019fd026b6e8d98c0feb56d0772a4224a97093302b70aa0b34c1df6e492526"), looks := false }, kinds := [], alts := [], laidByText := true, laidKinds := [.data, .pinned], laidTests := true, laidLooks := .later }
def WordAloneCardSaid : Prop := Claim7.holds Tryd.pinned (.plain (OpenSpec.ofChange wordAloneSpec)) wordAloneCard

/-- THE TIED CARD OF 'offsidelaw03.WordParts'. -/
def wordPartsCard : Claim7 := { stood := { row := wordPartsRow, standIns := [], harness := (true, "d5019fd026b6e8d98c0feb56d0772a4224a97093302b70aa0b34c1df6e492526"), looks := false }, kinds := [], alts := [], laidByText := true, laidKinds := [.data, .pinned], laidTests := true, laidLooks := .later }
def WordPartsCardSaid : Prop := Claim7.holds Tryd.pinned (.plain (OpenSpec.ofChange wordPartsSpec)) wordPartsCard

/-- THE TIED CARD OF 'offsidelaw03.WordBlank'. -/
def wordBlankCard : Claim7 := { stood := { row := wordBlankRow, standIns := [], harness := (true, "d5019fd026b6e8d98c0feb56d0772a4224a97093302b70aa0b34c1df6e492526"), looks := false }, kinds := [], alts := [], laidByText := true, laidKinds := [.data, .pinned], laidTests := true, laidLooks := .later }
def WordBlankCardSaid : Prop := Claim7.holds Tryd.pinned (.plain (OpenSpec.ofChange wordBlankSpec)) wordBlankCard

/-- THE SECOND FORM's CARD OF 'offsidelaw03.WordScans'. -/
def wordScansUptoCard : Claim7 := { stood := { row := wordScansUptoRow, standIns := [], harness := (true, "d5019fd026b6e8d98c0feb56d0772a4224a97093302b70aa0b34c1df6e492526"), looks := false }, kinds := [], alts := [], laidByText := true, laidKinds := [.data, .pinned], laidTests := true, laidLooks := .later }
def WordScansUptoCardSaid : Prop := Claim7.holds Tryd.pinned (.plain (OpenSpec.upto wordScansSpec)) wordScansUptoCard

/-- THE SECOND FORM's CARD OF 'offsidelaw03.WordKinds'. -/
def wordKindsUptoCard : Claim7 := { stood := { row := wordKindsUptoRow, standIns := [], harness := (true, "d5019fd026b6e8d98c0feb56d0772a4224a97093302b70aa0b34c1df6e492526"), looks := false }, kinds := [], alts := [], laidByText := true, laidKinds := [.data, .pinned], laidTests := true, laidLooks := .later }
def WordKindsUptoCardSaid : Prop := Claim7.holds Tryd.pinned (.plain (OpenSpec.upto wordKindsSpec)) wordKindsUptoCard

/-- THE SECOND FORM's CARD OF 'offsidelaw03.WordSplits'. -/
def wordSplitsUptoCard : Claim7 := { stood := { row := wordSplitsUptoRow, standIns := [], harness := (true, "d5019fd026b6e8d98c0feb56d0772a4224a97093302b70aa0b34c1df6e492526"), looks := false }, kinds := [], alts := [], laidByText := true, laidKinds := [.data, .pinned], laidTests := true, laidLooks := .later }
def WordSplitsUptoCardSaid : Prop := Claim7.holds Tryd.pinned (.plain (OpenSpec.upto wordSplitsSpec)) wordSplitsUptoCard

/-- THE SECOND FORM's CARD OF 'offsidelaw03.WordAparts'. -/
def wordApartsUptoCard : Claim7 := { stood := { row := wordApartsUptoRow, standIns := [], harness := (true, "d5019fd026b6e8d98c0feb56d0772a4224a97093302b70aa0b34c1df6e492526"), looks := false }, kinds := [], alts := [], laidByText := true, laidKinds := [.data, .pinned], laidTests := true, laidLooks := .later }
def WordApartsUptoCardSaid : Prop := Claim7.holds Tryd.pinned (.plain (OpenSpec.upto wordApartsSpec)) wordApartsUptoCard

/-- THE SECOND FORM's CARD OF 'offsidelaw03.WordAlone'. -/
def wordAloneUptoCard : Claim7 := { stood := { row := wordAloneUptoRow, standIns := [], harness := (true, "d5019fd026b6e8d98c0feb56d0772a4224a97093302b70aa0b34c1df6e492526"), looks := false }, kinds := [], alts := [], laidByText := true, laidKinds := [.data, .pinned], laidTests := true, laidLooks := .later }
def WordAloneUptoCardSaid : Prop := Claim7.holds Tryd.pinned (.plain (OpenSpec.upto wordAloneSpec)) wordAloneUptoCard

/-- THE SECOND FORM's CARD OF 'offsidelaw03.WordParts'. -/
def wordPartsUptoCard : Claim7 := { stood := { row := wordPartsUptoRow, standIns := [], harness := (true, "d5019fd026b6e8d98c0feb56d0772a4224a97093302b70aa0b34c1df6e492526"), looks := false }, kinds := [], alts := [], laidByText := true, laidKinds := [.data, .pinned], laidTests := true, laidLooks := .later }
def WordPartsUptoCardSaid : Prop := Claim7.holds Tryd.pinned (.plain (OpenSpec.upto wordPartsSpec)) wordPartsUptoCard

/-- THE SECOND FORM's CARD OF 'offsidelaw03.WordBlank'. -/
def wordBlankUptoCard : Claim7 := { stood := { row := wordBlankUptoRow, standIns := [], harness := (true, "d5019fd026b6e8d98c0feb56d0772a4224a97093302b70aa0b34c1df6e492526"), looks := false }, kinds := [], alts := [], laidByText := true, laidKinds := [.data, .pinned], laidTests := true, laidLooks := .later }
def WordBlankUptoCardSaid : Prop := Claim7.holds Tryd.pinned (.plain (OpenSpec.upto wordBlankSpec)) wordBlankUptoCard
end Rows
end Go.Proofs.YthiljpnabgbabaaDoor
