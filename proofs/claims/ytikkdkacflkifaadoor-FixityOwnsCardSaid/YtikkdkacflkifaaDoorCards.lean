/-
  DERIVED. GIVEN WITH THE SEED: THE CARDS: each row of YtikkdkacflkifaaDoorRows.lean that lists a variable, with what it lists TIED to the program's text (the seventh form; the later family's looks); each row that meets fmt, with fmt's text TOLD by the authors' own Lean function (tested against real Go, not proved from fmt's source: count such statements apart). THE CARD IS WHAT COUNTS. Prove the row's statement (the work); the ties are given (YtikkdkacflkifaaDoorTie.lean); close each card by the builder's one call (the guide's Derived/Test/ToyasCard.lean, 'card_holds'). Laid BY PROGRAM, IN A SANDBOX (cutbox-door.mjs). By AI agents, Wed Nov 11 2026. No macro, syntax, notation, axiom, sorry.
-/
import Derived.Test.YtikkdkacflkifaaDoorRows
import GoSem.ClaimSeven
namespace Go.Proofs.YtikkdkacflkifaaDoor
namespace Rows

/-- THE TIED CARD OF 'offsidelaw16.FixityFinds'. -/
def fixityFindsCard : Claim7 := { stood := { row := fixityFindsRow, standIns := [], harness := (true, "3e56bfc872a9e4eaf0347dc1030eb43ddca81ba50ffc8dc877e5f8b54df07826"), looks := false }, kinds := [], alts := [], laidByText := true, laidKinds := [.data, .listed, .data, .pinned], laidTests := true, laidLooks := .later }
def FixityFindsCardSaid : Prop := Claim7.holds Tryd.pinned (.plain (OpenSpec.ofChange fixityFindsSpec)) fixityFindsCard

/-- THE TIED CARD OF 'offsidelaw16.FixityNames'. -/
def fixityNamesCard : Claim7 := { stood := { row := fixityNamesRow, standIns := [], harness := (true, "3e56bfc872a9e4eaf0347dc1030eb43ddca81ba50ffc8dc877e5f8b54df07826"), looks := false }, kinds := [], alts := [], laidByText := true, laidKinds := [.data, .listed, .data, .pinned], laidTests := true, laidLooks := .later }
def FixityNamesCardSaid : Prop := Claim7.holds Tryd.pinned (.plain (OpenSpec.ofChange fixityNamesSpec)) fixityNamesCard

/-- THE TIED CARD OF 'offsidelaw16.FixityResolves'. -/
def fixityResolvesCard : Claim7 := { stood := { row := fixityResolvesRow, standIns := [], harness := (true, "3e56bfc872a9e4eaf0347dc1030eb43ddca81ba50ffc8dc877e5f8b54df07826"), looks := false }, kinds := [], alts := [], laidByText := true, laidKinds := [.data, .listed, .data, .pinned], laidTests := true, laidLooks := .later }
def FixityResolvesCardSaid : Prop := Claim7.holds Tryd.pinned (.plain (OpenSpec.ofChange fixityResolvesSpec)) fixityResolvesCard

/-- THE TIED CARD OF 'offsidelaw16.FixityTight'. -/
def fixityTightCard : Claim7 := { stood := { row := fixityTightRow, standIns := [], harness := (true, "3e56bfc872a9e4eaf0347dc1030eb43ddca81ba50ffc8dc877e5f8b54df07826"), looks := false }, kinds := [], alts := [], laidByText := true, laidKinds := [.data, .listed, .data, .pinned], laidTests := true, laidLooks := .later }
def FixityTightCardSaid : Prop := Claim7.holds Tryd.pinned (.plain (OpenSpec.ofChange fixityTightSpec)) fixityTightCard

/-- THE TIED CARD OF 'offsidelaw16.FixityLefts'. -/
def fixityLeftsCard : Claim7 := { stood := { row := fixityLeftsRow, standIns := [], harness := (true, "3e56bfc872a9e4eaf0347dc1030eb43ddca81ba50ffc8dc877e5f8b54df07826"), looks := false }, kinds := [], alts := [], laidByText := true, laidKinds := [.data, .listed, .data, .pinned], laidTests := true, laidLooks := .later }
def FixityLeftsCardSaid : Prop := Claim7.holds Tryd.pinned (.plain (OpenSpec.ofChange fixityLeftsSpec)) fixityLeftsCard

/-- THE TIED CARD OF 'offsidelaw16.FixityLeaves'. -/
def fixityLeavesCard : Claim7 := { stood := { row := fixityLeavesRow, standIns := [], harness := (true, "3e56bfc872a9e4eaf0347dc1030eb43ddca81ba50ffc8dc877e5f8b54df07826"), looks := false }, kinds := [], alts := [], laidByText := true, laidKinds := [.data, .listed, .data, .pinned], laidTests := true, laidLooks := .later }
def FixityLeavesCardSaid : Prop := Claim7.holds Tryd.pinned (.plain (OpenSpec.ofChange fixityLeavesSpec)) fixityLeavesCard

/-- THE TIED CARD OF 'offsidelaw16.FixityOwns'. -/
def fixityOwnsCard : Claim7 := { stood := { row := fixityOwnsRow, standIns := [], harness := (true, "3e56bfc872a9e4eaf0347dc1030eb43ddca81ba50ffc8dc877e5f8b54df07826"), looks := false }, kinds := [], alts := [], laidByText := true, laidKinds := [.data, .listed, .data, .pinned], laidTests := true, laidLooks := .later }
def FixityOwnsCardSaid : Prop := Claim7.holds Tryd.pinned (.plain (OpenSpec.ofChange fixityOwnsSpec)) fixityOwnsCard

/-- THE SECOND FORM's CARD OF 'offsidelaw16.FixityFinds'. -/
def fixityFindsUptoCard : Claim7 := { stood := { row := fixityFindsUptoRow, standIns := [], harness := (true, "3e56bfc872a9e4eaf0347dc1030eb43ddca81ba50ffc8dc877e5f8b54df07826"), looks := false }, kinds := [], alts := [], laidByText := true, laidKinds := [.data, .listed, .data, .pinned], laidTests := true, laidLooks := .later }
def FixityFindsUptoCardSaid : Prop := Claim7.holds Tryd.pinned (.plain (OpenSpec.upto fixityFindsSpec)) fixityFindsUptoCard

/-- THE SECOND FORM's CARD OF 'offsidelaw16.FixityNames'. -/
def fixityNamesUptoCard : Claim7 := { stood := { row := fixityNamesUptoRow, standIns := [], harness := (true, "3e56bfc872a9e4eaf0347dc1030eb43ddca81ba50ffc8dc877e5f8b54df07826"), looks := false }, kinds := [], alts := [], laidByText := true, laidKinds := [.data, .listed, .data, .pinned], laidTests := true, laidLooks := .later }
def FixityNamesUptoCardSaid : Prop := Claim7.holds Tryd.pinned (.plain (OpenSpec.upto fixityNamesSpec)) fixityNamesUptoCard

/-- THE SECOND FORM's CARD OF 'offsidelaw16.FixityResolves'. -/
def fixityResolvesUptoCard : Claim7 := { stood := { row := fixityResolvesUptoRow, standIns := [], harness := (true, "3e56bfc872a9e4eaf0347dc1030eb43ddca81ba50ffc8dc877e5f8b54df07826"), looks := false }, kinds := [], alts := [], laidByText := true, laidKinds := [.data, .listed, .data, .pinned], laidTests := true, laidLooks := .later }
def FixityResolvesUptoCardSaid : Prop := Claim7.holds Tryd.pinned (.plain (OpenSpec.upto fixityResolvesSpec)) fixityResolvesUptoCard

/-- THE SECOND FORM's CARD OF 'offsidelaw16.FixityTight'. -/
def fixityTightUptoCard : Claim7 := { stood := { row := fixityTightUptoRow, standIns := [], harness := (true, "3e56bfc872a9e4eaf0347dc1030eb43ddca81ba50ffc8dc877e5f8b54df07826"), looks := false }, kinds := [], alts := [], laidByText := true, laidKinds := [.data, .listed, .data, .pinned], laidTests := true, laidLooks := .later }
def FixityTightUptoCardSaid : Prop := Claim7.holds Tryd.pinned (.plain (OpenSpec.upto fixityTightSpec)) fixityTightUptoCard

/-- THE SECOND FORM's CARD OF 'offsidelaw16.FixityLefts'. -/
def fixityLeftsUptoCard : Claim7 := { stood := { row := fixityLeftsUptoRow, standIns := [], harness := (true, "3e56bfc872a9e4eaf0347dc1030eb43ddca81ba50ffc8dc877e5f8b54df07826"), looks := false }, kinds := [], alts := [], laidByText := true, laidKinds := [.data, .listed, .data, .pinned], laidTests := true, laidLooks := .later }
def FixityLeftsUptoCardSaid : Prop := Claim7.holds Tryd.pinned (.plain (OpenSpec.upto fixityLeftsSpec)) fixityLeftsUptoCard

/-- THE SECOND FORM's CARD OF 'offsidelaw16.FixityLeaves'. -/
def fixityLeavesUptoCard : Claim7 := { stood := { row := fixityLeavesUptoRow, standIns := [], harness := (true, "3e56bfc872a9e4eaf0347dc1030eb43ddca81ba50ffc8dc877e5f8b54df07826"), looks := false }, kinds := [], alts := [], laidByText := true, laidKinds := [.data, .listed, .data, .pinned], laidTests := true, laidLooks := .later }
def FixityLeavesUptoCardSaid : Prop := Claim7.holds Tryd.pinned (.plain (OpenSpec.upto fixityLeavesSpec)) fixityLeavesUptoCard

/-- THE SECOND FORM's CARD OF 'offsidelaw16.FixityOwns'. -/
def fixityOwnsUptoCard : Claim7 := { stood := { row := fixityOwnsUptoRow, standIns := [], harness := (true, "3e56bfc872a9e4eaf0347dc1030eb43ddca81ba50ffc8dc877e5f8b54df07826"), looks := false }, kinds := [], alts := [], laidByText := true, laidKinds := [.data, .listed, .data, .pinned], laidTests := true, laidLooks := .later }
def FixityOwnsUptoCardSaid : Prop := Claim7.holds Tryd.pinned (.plain (OpenSpec.upto fixityOwnsSpec)) fixityOwnsUptoCard
end Rows
end Go.Proofs.YtikkdkacflkifaaDoor
