/-
  DERIVED. GIVEN WITH THE SEED: THE CARDS: each row of YtmgnpgbganjgfaaDoorRows.lean that lists a variable, with what it lists TIED to the program's text (the seventh form; the later family's looks); each row that meets fmt, with fmt's text TOLD by the authors' own Lean function (tested against real Go, not proved from fmt's source: count such statements apart). THE CARD IS WHAT COUNTS. Prove the row's statement (the work); the ties are given (YtmgnpgbganjgfaaDoorTie.lean); close each card by the builder's one call (the guide's Derived/Test/ToyasCard.lean, 'card_holds'). Laid BY PROGRAM, IN A SANDBOX (cutbox-door.mjs). By AI agents, Wed Nov 11 2026. No macro, syntax, notation, axiom, sorry.
-/
import Derived.Test.YtmgnpgbganjgfaaDoorRows
import GoSem.ClaimSeven
namespace Go.Proofs.YtmgnpgbganjgfaaDoor
namespace Rows

/-- THE TIED CARD OF 'offsidelaw05.QuoteScans'. -/
def quoteScansCard : Claim7 := { stood := { row := quoteScansRow, standIns := [], harness := (true, "5867d3329f8cc4d4ed6db511b445127d5ea5e3c8842a381f4232b15548dba7d3"), looks := true }, kinds := [], alts := [], laidByText := true, laidKinds := [.data, .data, .data, .data, .listed, .data, .pinned], laidTests := true, laidLooks := .later }
def QuoteScansCardSaid : Prop := Claim7.holds Tryd.pinned (.plain (OpenSpec.ofChange quoteScansSpec)) quoteScansCard

/-- THE TIED CARD OF 'offsidelaw05.QuoteRunes'. -/
def quoteRunesCard : Claim7 := { stood := { row := quoteRunesRow, standIns := [], harness := (true, "5867d3329f8cc4d4ed6db511b445127d5ea5e3c8842a381f4232b15548dba7d3"), looks := true }, kinds := [], alts := [], laidByText := true, laidKinds := [.data, .data, .data, .data, .listed, .data, .pinned], laidTests := true, laidLooks := .later }
def QuoteRunesCardSaid : Prop := Claim7.holds Tryd.pinned (.plain (OpenSpec.ofChange quoteRunesSpec)) quoteRunesCard

/-- THE TIED CARD OF 'offsidelaw05.QuoteWrites'. -/
def quoteWritesCard : Claim7 := { stood := { row := quoteWritesRow, standIns := [], harness := (true, "5867d3329f8cc4d4ed6db511b445127d5ea5e3c8842a381f4232b15548dba7d3"), looks := true }, kinds := [], alts := [], laidByText := true, laidKinds := [.data, .data, .data, .data, .listed, .data, .pinned], laidTests := true, laidLooks := .later }
def QuoteWritesCardSaid : Prop := Claim7.holds Tryd.pinned (.plain (OpenSpec.ofChange quoteWritesSpec)) quoteWritesCard

/-- THE TIED CARD OF 'offsidelaw05.QuoteBack'. -/
def quoteBackCard : Claim7 := { stood := { row := quoteBackRow, standIns := [], harness := (true, "5867d3329f8cc4d4ed6db511b445127d5ea5e3c8842a381f4232b15548dba7d3"), looks := true }, kinds := [], alts := [], laidByText := true, laidKinds := [.data, .data, .data, .data, .listed, .data, .pinned], laidTests := true, laidLooks := .later }
def QuoteBackCardSaid : Prop := Claim7.holds Tryd.pinned (.plain (OpenSpec.ofChange quoteBackSpec)) quoteBackCard

/-- THE TIED CARD OF 'offsidelaw05.QuoteAlone'. -/
def quoteAloneCard : Claim7 := { stood := { row := quoteAloneRow, standIns := [], harness := (true, "5867d3329f8cc4d4ed6db511b445127d5ea5e3c8842a381f4232b15548dba7d3"), looks := true }, kinds := [], alts := [], laidByText := true, laidKinds := [.data, .data, .data, .data, .listed, .data, .pinned], laidTests := true, laidLooks := .later }
def QuoteAloneCardSaid : Prop := Claim7.holds Tryd.pinned (.plain (OpenSpec.ofChange quoteAloneSpec)) quoteAloneCard

/-- THE TIED CARD OF 'offsidelaw05.QuotePlains'. -/
def quotePlainsCard : Claim7 := { stood := { row := quotePlainsRow, standIns := [], harness := (true, "5867d3329f8cc4d4ed6db511b445127d5ea5e3c8842a381f4232b15548dba7d3"), looks := true }, kinds := [], alts := [], laidByText := true, laidKinds := [.data, .data, .data, .data, .listed, .data, .pinned], laidTests := true, laidLooks := .later }
def QuotePlainsCardSaid : Prop := Claim7.holds Tryd.pinned (.plain (OpenSpec.ofChange quotePlainsSpec)) quotePlainsCard

/-- THE TIED CARD OF 'offsidelaw05.QuoteMeans'. -/
def quoteMeansCard : Claim7 := { stood := { row := quoteMeansRow, standIns := [], harness := (true, "5867d3329f8cc4d4ed6db511b445127d5ea5e3c8842a381f4232b15548dba7d3"), looks := true }, kinds := [], alts := [], laidByText := true, laidKinds := [.data, .data, .data, .data, .listed, .data, .pinned], laidTests := true, laidLooks := .later }
def QuoteMeansCardSaid : Prop := Claim7.holds Tryd.pinned (.plain (OpenSpec.ofChange quoteMeansSpec)) quoteMeansCard

/-- THE SECOND FORM's CARD OF 'offsidelaw05.QuoteScans'. -/
def quoteScansUptoCard : Claim7 := { stood := { row := quoteScansUptoRow, standIns := [], harness := (true, "5867d3329f8cc4d4ed6db511b445127d5ea5e3c8842a381f4232b15548dba7d3"), looks := true }, kinds := [], alts := [], laidByText := true, laidKinds := [.data, .data, .data, .data, .listed, .data, .pinned], laidTests := true, laidLooks := .later }
def QuoteScansUptoCardSaid : Prop := Claim7.holds Tryd.pinned (.plain (OpenSpec.upto quoteScansSpec)) quoteScansUptoCard

/-- THE SECOND FORM's CARD OF 'offsidelaw05.QuoteRunes'. -/
def quoteRunesUptoCard : Claim7 := { stood := { row := quoteRunesUptoRow, standIns := [], harness := (true, "5867d3329f8cc4d4ed6db511b445127d5ea5e3c8842a381f4232b15548dba7d3"), looks := true }, kinds := [], alts := [], laidByText := true, laidKinds := [.data, .data, .data, .data, .listed, .data, .pinned], laidTests := true, laidLooks := .later }
def QuoteRunesUptoCardSaid : Prop := Claim7.holds Tryd.pinned (.plain (OpenSpec.upto quoteRunesSpec)) quoteRunesUptoCard

/-- THE SECOND FORM's CARD OF 'offsidelaw05.QuoteWrites'. -/
def quoteWritesUptoCard : Claim7 := { stood := { row := quoteWritesUptoRow, standIns := [], harness := (true, "5867d3329f8cc4d4ed6db511b445127d5ea5e3c8842a381f4232b15548dba7d3"), looks := true }, kinds := [], alts := [], laidByText := true, laidKinds := [.data, .data, .data, .data, .listed, .data, .pinned], laidTests := true, laidLooks := .later }
def QuoteWritesUptoCardSaid : Prop := Claim7.holds Tryd.pinned (.plain (OpenSpec.upto quoteWritesSpec)) quoteWritesUptoCard

/-- THE SECOND FORM's CARD OF 'offsidelaw05.QuoteBack'. -/
def quoteBackUptoCard : Claim7 := { stood := { row := quoteBackUptoRow, standIns := [], harness := (true, "5867d3329f8cc4d4ed6db511b445127d5ea5e3c8842a381f4232b15548dba7d3"), looks := true }, kinds := [], alts := [], laidByText := true, laidKinds := [.data, .data, .data, .data, .listed, .data, .pinned], laidTests := true, laidLooks := .later }
def QuoteBackUptoCardSaid : Prop := Claim7.holds Tryd.pinned (.plain (OpenSpec.upto quoteBackSpec)) quoteBackUptoCard

/-- THE SECOND FORM's CARD OF 'offsidelaw05.QuoteAlone'. -/
def quoteAloneUptoCard : Claim7 := { stood := { row := quoteAloneUptoRow, standIns := [], harness := (true, "5867d3329f8cc4d4ed6db511b445127d5ea5e3c8842a381f4232b15548dba7d3"), looks := true }, kinds := [], alts := [], laidByText := true, laidKinds := [.data, .data, .data, .data, .listed, .data, .pinned], laidTests := true, laidLooks := .later }
def QuoteAloneUptoCardSaid : Prop := Claim7.holds Tryd.pinned (.plain (OpenSpec.upto quoteAloneSpec)) quoteAloneUptoCard

/-- THE SECOND FORM's CARD OF 'offsidelaw05.QuotePlains'. -/
def quotePlainsUptoCard : Claim7 := { stood := { row := quotePlainsUptoRow, standIns := [], harness := (true, "5867d3329f8cc4d4ed6db511b445127d5ea5e3c8842a381f4232b15548dba7d3"), looks := true }, kinds := [], alts := [], laidByText := true, laidKinds := [.data, .data, .data, .data, .listed, .data, .pinned], laidTests := true, laidLooks := .later }
def QuotePlainsUptoCardSaid : Prop := Claim7.holds Tryd.pinned (.plain (OpenSpec.upto quotePlainsSpec)) quotePlainsUptoCard

/-- THE SECOND FORM's CARD OF 'offsidelaw05.QuoteMeans'. -/
def quoteMeansUptoCard : Claim7 := { stood := { row := quoteMeansUptoRow, standIns := [], harness := (true, "5867d3329f8cc4d4ed6db511b445127d5ea5e3c8842a381f4232b15548dba7d3"), looks := true }, kinds := [], alts := [], laidByText := true, laidKinds := [.data, .data, .data, .data, .listed, .data, .pinned], laidTests := true, laidLooks := .later }
def QuoteMeansUptoCardSaid : Prop := Claim7.holds Tryd.pinned (.plain (OpenSpec.upto quoteMeansSpec)) quoteMeansUptoCard
end Rows
end Go.Proofs.YtmgnpgbganjgfaaDoor
