/-
  NARROWER THAN 'FOR EVERY INPUT', by the rows' own cells (each row's printed sentence says how): PlaceOf: laid · PlaceLines: laid · PlaceRises: laid · PlaceWidths: laid · PlaceCounts: laid · PlaceSpreads: laid · PlaceStays: laid.
  DERIVED. THE GIVEN ROWS OF THIS SEAT. 7 by the template 'for every input the law returns true; each argument reads behind the call as it read before'; 0 by the template 'total and deterministic' (their statements: YtmbgfchbjedjnaaDoorTotals.lean).
  GIVEN WITH THE SEED: the statements are not yours to turn. If you find one false, say at which input.
  Laid BY PROGRAM, IN A SANDBOX (cutbox-rows.mjs): the forced cells as the released guide's own fill.sh prints them over the translation 614dcef07c6f565e… (all of the seat's roots in one cut). By AI agents, Wed Nov 11 2026. No macro, syntax, notation, axiom, sorry.
-/
import Derived.Test.YtmbgfchbjedjnaaDoorChecked
import GoSem.PinnedTables
import GoSem.Claim
import GoSem.ClaimJoined
import GoSem.ClaimMapViews
import Derived.JoinedTies
import Derived.KernelRfl
namespace Go.Proofs.YtmbgfchbjedjnaaDoor
/- THE CELL 'sum', in the pinned program and in every row, IS THE sha256 OF THE DUMP (.gsa) THAT YtmbgfchbjedjnaaDoorProg.lean LOADS. Nothing in Lean hashes anything: it is a label: what it is worth is what the hold of that sum in a sandbox is worth. -/
noncomputable def Tryd.pinned : Pinned := { name := "ytmbgfchbjedjnaadoor", sum := "614dcef07c6f565eed5638db4035a50b57e12d34ba8b0648c8cfb2c11fe079f7", checked := Tryd.checked }
namespace Rows
def none {H : Type} : Left H := { results := [], args := [] }

/- WHAT THE LISTED PACKAGE-LEVEL VARIABLES READ AS WHEN THE CALL BEGINS. Each datum BY PROGRAM (the guide's laid-datum.mjs) off the statement by which the dump's own 'gosem.cut.vars' lays the variable. In a bare row this is a premise. The card (YtmbgfchbjedjnaaDoorCards.lean) ties it to the program's text. -/
def laid_unicode_utf8_acceptRanges {H : Type} : DataW H := .agg [.agg [.lit (.int .u8 128), .lit (.int .u8 191)], .agg [.lit (.int .u8 160), .lit (.int .u8 191)], .agg [.lit (.int .u8 128), .lit (.int .u8 159)], .agg [.lit (.int .u8 144), .lit (.int .u8 191)], .agg [.lit (.int .u8 128), .lit (.int .u8 143)], .agg [.lit (.int .u8 0), .lit (.int .u8 0)], .agg [.lit (.int .u8 0), .lit (.int .u8 0)], .agg [.lit (.int .u8 0), .lit (.int .u8 0)], .agg [.lit (.int .u8 0), .lit (.int .u8 0)], .agg [.lit (.int .u8 0), .lit (.int .u8 0)], .agg [.lit (.int .u8 0), .lit (.int .u8 0)], .agg [.lit (.int .u8 0), .lit (.int .u8 0)], .agg [.lit (.int .u8 0), .lit (.int .u8 0)], .agg [.lit (.int .u8 0), .lit (.int .u8 0)], .agg [.lit (.int .u8 0), .lit (.int .u8 0)], .agg [.lit (.int .u8 0), .lit (.int .u8 0)]]
/-- One of Go's own tables, pinned by name: the form's constant. -/
def laid_unicode_utf8_first : DataW Unit := Go.Pinned.utf8First

/-- 'offsidelaw02.PlaceOf': WHATEVER THE INPUT: true; the input reads as it did. -/
def placeOfSpec : ChangeSpec := { name := "placeOf", fn := fun _ => fun
  | [d1, d2] => { results := [.lit (.bool true)], args := [d1, d2] }
  | _ => none }
def placeOfRow : OpenClaim := { program := "ytmbgfchbjedjnaadoor", sum := "614dcef07c6f565eed5638db4035a50b57e12d34ba8b0648c8cfb2c11fe079f7", func := "offside/offsidelaw02.PlaceOf", spec := "placeOf", inPlace := ["internal/bytealg.IndexByteString", "internal/bytealg.IndexString"], named := ["unicode/utf8.first", "unicode/utf8.acceptRanges", "internal/bytealg.MaxLen"], apart := false, laid := [("unicode/utf8.acceptRanges", laid_unicode_utf8_acceptRanges), ("unicode/utf8.first", laid_unicode_utf8_first)] }
def PlaceOfSaid : Prop := placeOfRow.holds Tryd.pinned (OpenSpec.ofChange placeOfSpec)

/-- ITS FALSE NEIGHBOUR: 'it returns false'. Refute it at one input. -/
def placeOfWrong : ChangeSpec := { name := "placeOf", fn := fun _ => fun
  | [d1, d2] => { results := [.lit (.bool false)], args := [d1, d2] }
  | _ => none }
def PlaceOfWrongFalsely : Prop := placeOfRow.holds Tryd.pinned (OpenSpec.ofChange placeOfWrong)

/-- 'offsidelaw02.PlaceLines': WHATEVER THE INPUT: true; the input reads as it did. -/
def placeLinesSpec : ChangeSpec := { name := "placeLines", fn := fun _ => fun
  | [d] => { results := [.lit (.bool true)], args := [d] }
  | _ => none }
def placeLinesRow : OpenClaim := { program := "ytmbgfchbjedjnaadoor", sum := "614dcef07c6f565eed5638db4035a50b57e12d34ba8b0648c8cfb2c11fe079f7", func := "offside/offsidelaw02.PlaceLines", spec := "placeLines", inPlace := ["internal/bytealg.IndexByteString", "internal/bytealg.IndexString"], named := ["unicode/utf8.first", "unicode/utf8.acceptRanges", "internal/bytealg.MaxLen"], apart := false, laid := [("unicode/utf8.acceptRanges", laid_unicode_utf8_acceptRanges), ("unicode/utf8.first", laid_unicode_utf8_first)] }
def PlaceLinesSaid : Prop := placeLinesRow.holds Tryd.pinned (OpenSpec.ofChange placeLinesSpec)

/-- ITS FALSE NEIGHBOUR: 'it returns false'. Refute it at one input. -/
def placeLinesWrong : ChangeSpec := { name := "placeLines", fn := fun _ => fun
  | [d] => { results := [.lit (.bool false)], args := [d] }
  | _ => none }
def PlaceLinesWrongFalsely : Prop := placeLinesRow.holds Tryd.pinned (OpenSpec.ofChange placeLinesWrong)

/-- 'offsidelaw02.PlaceRises': WHATEVER THE INPUT: true; the input reads as it did. -/
def placeRisesSpec : ChangeSpec := { name := "placeRises", fn := fun _ => fun
  | [d1, d2, d3] => { results := [.lit (.bool true)], args := [d1, d2, d3] }
  | _ => none }
def placeRisesRow : OpenClaim := { program := "ytmbgfchbjedjnaadoor", sum := "614dcef07c6f565eed5638db4035a50b57e12d34ba8b0648c8cfb2c11fe079f7", func := "offside/offsidelaw02.PlaceRises", spec := "placeRises", inPlace := ["internal/bytealg.IndexByteString", "internal/bytealg.IndexString"], named := ["unicode/utf8.first", "unicode/utf8.acceptRanges", "internal/bytealg.MaxLen"], apart := false, laid := [("unicode/utf8.acceptRanges", laid_unicode_utf8_acceptRanges), ("unicode/utf8.first", laid_unicode_utf8_first)] }
def PlaceRisesSaid : Prop := placeRisesRow.holds Tryd.pinned (OpenSpec.ofChange placeRisesSpec)

/-- ITS FALSE NEIGHBOUR: 'it returns false'. Refute it at one input. -/
def placeRisesWrong : ChangeSpec := { name := "placeRises", fn := fun _ => fun
  | [d1, d2, d3] => { results := [.lit (.bool false)], args := [d1, d2, d3] }
  | _ => none }
def PlaceRisesWrongFalsely : Prop := placeRisesRow.holds Tryd.pinned (OpenSpec.ofChange placeRisesWrong)

/-- 'offsidelaw02.PlaceWidths': WHATEVER THE INPUT: true; the input reads as it did. -/
def placeWidthsSpec : ChangeSpec := { name := "placeWidths", fn := fun _ => fun
  | [d1, d2] => { results := [.lit (.bool true)], args := [d1, d2] }
  | _ => none }
def placeWidthsRow : OpenClaim := { program := "ytmbgfchbjedjnaadoor", sum := "614dcef07c6f565eed5638db4035a50b57e12d34ba8b0648c8cfb2c11fe079f7", func := "offside/offsidelaw02.PlaceWidths", spec := "placeWidths", inPlace := ["internal/bytealg.IndexByteString", "internal/bytealg.IndexString"], named := ["unicode/utf8.first", "unicode/utf8.acceptRanges", "internal/bytealg.MaxLen"], apart := false, laid := [("unicode/utf8.acceptRanges", laid_unicode_utf8_acceptRanges), ("unicode/utf8.first", laid_unicode_utf8_first)] }
def PlaceWidthsSaid : Prop := placeWidthsRow.holds Tryd.pinned (OpenSpec.ofChange placeWidthsSpec)

/-- ITS FALSE NEIGHBOUR: 'it returns false'. Refute it at one input. -/
def placeWidthsWrong : ChangeSpec := { name := "placeWidths", fn := fun _ => fun
  | [d1, d2] => { results := [.lit (.bool false)], args := [d1, d2] }
  | _ => none }
def PlaceWidthsWrongFalsely : Prop := placeWidthsRow.holds Tryd.pinned (OpenSpec.ofChange placeWidthsWrong)

/-- 'offsidelaw02.PlaceCounts': WHATEVER THE INPUT: true; the input reads as it did. -/
def placeCountsSpec : ChangeSpec := { name := "placeCounts", fn := fun _ => fun
  | [d] => { results := [.lit (.bool true)], args := [d] }
  | _ => none }
def placeCountsRow : OpenClaim := { program := "ytmbgfchbjedjnaadoor", sum := "614dcef07c6f565eed5638db4035a50b57e12d34ba8b0648c8cfb2c11fe079f7", func := "offside/offsidelaw02.PlaceCounts", spec := "placeCounts", inPlace := ["internal/bytealg.IndexByteString", "internal/bytealg.IndexString"], named := ["unicode/utf8.first", "unicode/utf8.acceptRanges", "internal/bytealg.MaxLen"], apart := false, laid := [("unicode/utf8.acceptRanges", laid_unicode_utf8_acceptRanges), ("unicode/utf8.first", laid_unicode_utf8_first)] }
def PlaceCountsSaid : Prop := placeCountsRow.holds Tryd.pinned (OpenSpec.ofChange placeCountsSpec)

/-- ITS FALSE NEIGHBOUR: 'it returns false'. Refute it at one input. -/
def placeCountsWrong : ChangeSpec := { name := "placeCounts", fn := fun _ => fun
  | [d] => { results := [.lit (.bool false)], args := [d] }
  | _ => none }
def PlaceCountsWrongFalsely : Prop := placeCountsRow.holds Tryd.pinned (OpenSpec.ofChange placeCountsWrong)

/-- 'offsidelaw02.PlaceSpreads': WHATEVER THE INPUT: true; the input reads as it did. -/
def placeSpreadsSpec : ChangeSpec := { name := "placeSpreads", fn := fun _ => fun
  | [d] => { results := [.lit (.bool true)], args := [d] }
  | _ => none }
def placeSpreadsRow : OpenClaim := { program := "ytmbgfchbjedjnaadoor", sum := "614dcef07c6f565eed5638db4035a50b57e12d34ba8b0648c8cfb2c11fe079f7", func := "offside/offsidelaw02.PlaceSpreads", spec := "placeSpreads", inPlace := ["internal/bytealg.IndexByteString", "internal/bytealg.IndexString", "internal/abi.NoEscape", "internal/bytealg.MakeNoZero"], named := ["unicode/utf8.first", "unicode/utf8.acceptRanges", "internal/bytealg.MaxLen"], apart := false, laid := [("unicode/utf8.acceptRanges", laid_unicode_utf8_acceptRanges), ("unicode/utf8.first", laid_unicode_utf8_first)] }
def PlaceSpreadsSaid : Prop := placeSpreadsRow.holds Tryd.pinned (OpenSpec.ofChange placeSpreadsSpec)

/-- ITS FALSE NEIGHBOUR: 'it returns false'. Refute it at one input. -/
def placeSpreadsWrong : ChangeSpec := { name := "placeSpreads", fn := fun _ => fun
  | [d] => { results := [.lit (.bool false)], args := [d] }
  | _ => none }
def PlaceSpreadsWrongFalsely : Prop := placeSpreadsRow.holds Tryd.pinned (OpenSpec.ofChange placeSpreadsWrong)

/-- 'offsidelaw02.PlaceStays': WHATEVER THE INPUT: true; the input reads as it did. -/
def placeStaysSpec : ChangeSpec := { name := "placeStays", fn := fun _ => fun
  | [d] => { results := [.lit (.bool true)], args := [d] }
  | _ => none }
def placeStaysRow : OpenClaim := { program := "ytmbgfchbjedjnaadoor", sum := "614dcef07c6f565eed5638db4035a50b57e12d34ba8b0648c8cfb2c11fe079f7", func := "offside/offsidelaw02.PlaceStays", spec := "placeStays", inPlace := ["internal/bytealg.IndexByteString", "internal/bytealg.IndexString", "internal/abi.NoEscape", "internal/bytealg.MakeNoZero"], named := ["unicode/utf8.first", "unicode/utf8.acceptRanges", "internal/bytealg.MaxLen"], apart := false, laid := [("unicode/utf8.acceptRanges", laid_unicode_utf8_acceptRanges), ("unicode/utf8.first", laid_unicode_utf8_first)] }
def PlaceStaysSaid : Prop := placeStaysRow.holds Tryd.pinned (OpenSpec.ofChange placeStaysSpec)

/-- ITS FALSE NEIGHBOUR: 'it returns false'. Refute it at one input. -/
def placeStaysWrong : ChangeSpec := { name := "placeStays", fn := fun _ => fun
  | [d] => { results := [.lit (.bool false)], args := [d] }
  | _ => none }
def PlaceStaysWrongFalsely : Prop := placeStaysRow.holds Tryd.pinned (OpenSpec.ofChange placeStaysWrong)

/- THE SECOND FORM. 'bulk': how many values and letters a reading holds, each counted each time it is reached (what is shared counts as often as it is met; a slice's spare places count too). A statement '..UptoSaid' is the law's where the arguments, and the package variables that the reading takes, are together of bulk at most 1048576: NARROWER than '..Said'. Prove '..Said' where nothing that the law and all that it calls make is longer than what came in: it says more and counts as full. Else prove '..UptoSaid'. A law counts once. -/
mutual
def uptoBulk {H : Type} : DataW H → Nat
  | .lit (.string bytes) => bytes.length + 1
  | .lit _ => 1
  | .nil => 1
  | .ptr d => uptoBulk d + 1
  | .slice elems spare => uptoBulkAll elems + uptoBulkAll spare + 1
  | .agg parts => uptoBulkAll parts + 1
  | .iface _ d => uptoBulk d + 1
  | .map entries => uptoBulkEntries entries + 1
  | .held _ => 1
def uptoBulkAll {H : Type} : List (DataW H) → Nat
  | [] => 0
  | d :: r => uptoBulk d + uptoBulkAll r
def uptoBulkEntries {H : Type} : List (Lit × DataW H) → Nat
  | [] => 0
  | x :: r => uptoBulkEntry x + uptoBulkEntries r
def uptoBulkEntry {H : Type} : Lit × DataW H → Nat
  | (.string bytes, d) => bytes.length + uptoBulk d + 1
  | (_, d) => uptoBulk d + 1
 end
def uptoSmall : (H : Type) → List (DataW H) → Bool := fun _ ds => decide (uptoBulkAll ds ≤ 1048576)
def OpenSpec.upto (s : _root_.Go.ChangeSpec) : _root_.Go.OpenSpec := { _root_.Go.OpenSpec.ofChange s with cond := some uptoSmall }

/-- 'offsidelaw02.PlaceOf', WHERE WHAT IT READS IS OF BULK AT MOST 1048576: true; the input reads as it did. -/
def placeOfUptoRow : OpenClaim := { program := "ytmbgfchbjedjnaadoor", sum := "614dcef07c6f565eed5638db4035a50b57e12d34ba8b0648c8cfb2c11fe079f7", func := "offside/offsidelaw02.PlaceOf", spec := "placeOf", inPlace := ["internal/bytealg.IndexByteString", "internal/bytealg.IndexString"], named := ["unicode/utf8.first", "unicode/utf8.acceptRanges", "internal/bytealg.MaxLen"], apart := false, laid := [("unicode/utf8.acceptRanges", laid_unicode_utf8_acceptRanges), ("unicode/utf8.first", laid_unicode_utf8_first)], narrowed := true }
def PlaceOfUptoSaid : Prop := placeOfUptoRow.holds Tryd.pinned (OpenSpec.upto placeOfSpec)

/-- 'offsidelaw02.PlaceLines', WHERE WHAT IT READS IS OF BULK AT MOST 1048576: true; the input reads as it did. -/
def placeLinesUptoRow : OpenClaim := { program := "ytmbgfchbjedjnaadoor", sum := "614dcef07c6f565eed5638db4035a50b57e12d34ba8b0648c8cfb2c11fe079f7", func := "offside/offsidelaw02.PlaceLines", spec := "placeLines", inPlace := ["internal/bytealg.IndexByteString", "internal/bytealg.IndexString"], named := ["unicode/utf8.first", "unicode/utf8.acceptRanges", "internal/bytealg.MaxLen"], apart := false, laid := [("unicode/utf8.acceptRanges", laid_unicode_utf8_acceptRanges), ("unicode/utf8.first", laid_unicode_utf8_first)], narrowed := true }
def PlaceLinesUptoSaid : Prop := placeLinesUptoRow.holds Tryd.pinned (OpenSpec.upto placeLinesSpec)

/-- 'offsidelaw02.PlaceRises', WHERE WHAT IT READS IS OF BULK AT MOST 1048576: true; the input reads as it did. -/
def placeRisesUptoRow : OpenClaim := { program := "ytmbgfchbjedjnaadoor", sum := "614dcef07c6f565eed5638db4035a50b57e12d34ba8b0648c8cfb2c11fe079f7", func := "offside/offsidelaw02.PlaceRises", spec := "placeRises", inPlace := ["internal/bytealg.IndexByteString", "internal/bytealg.IndexString"], named := ["unicode/utf8.first", "unicode/utf8.acceptRanges", "internal/bytealg.MaxLen"], apart := false, laid := [("unicode/utf8.acceptRanges", laid_unicode_utf8_acceptRanges), ("unicode/utf8.first", laid_unicode_utf8_first)], narrowed := true }
def PlaceRisesUptoSaid : Prop := placeRisesUptoRow.holds Tryd.pinned (OpenSpec.upto placeRisesSpec)

/-- 'offsidelaw02.PlaceWidths', WHERE WHAT IT READS IS OF BULK AT MOST 1048576: true; the input reads as it did. -/
def placeWidthsUptoRow : OpenClaim := { program := "ytmbgfchbjedjnaadoor", sum := "614dcef07c6f565eed5638db4035a50b57e12d34ba8b0648c8cfb2c11fe079f7", func := "offside/offsidelaw02.PlaceWidths", spec := "placeWidths", inPlace := ["internal/bytealg.IndexByteString", "internal/bytealg.IndexString"], named := ["unicode/utf8.first", "unicode/utf8.acceptRanges", "internal/bytealg.MaxLen"], apart := false, laid := [("unicode/utf8.acceptRanges", laid_unicode_utf8_acceptRanges), ("unicode/utf8.first", laid_unicode_utf8_first)], narrowed := true }
def PlaceWidthsUptoSaid : Prop := placeWidthsUptoRow.holds Tryd.pinned (OpenSpec.upto placeWidthsSpec)

/-- 'offsidelaw02.PlaceCounts', WHERE WHAT IT READS IS OF BULK AT MOST 1048576: true; the input reads as it did. -/
def placeCountsUptoRow : OpenClaim := { program := "ytmbgfchbjedjnaadoor", sum := "614dcef07c6f565eed5638db4035a50b57e12d34ba8b0648c8cfb2c11fe079f7", func := "offside/offsidelaw02.PlaceCounts", spec := "placeCounts", inPlace := ["internal/bytealg.IndexByteString", "internal/bytealg.IndexString"], named := ["unicode/utf8.first", "unicode/utf8.acceptRanges", "internal/bytealg.MaxLen"], apart := false, laid := [("unicode/utf8.acceptRanges", laid_unicode_utf8_acceptRanges), ("unicode/utf8.first", laid_unicode_utf8_first)], narrowed := true }
def PlaceCountsUptoSaid : Prop := placeCountsUptoRow.holds Tryd.pinned (OpenSpec.upto placeCountsSpec)

/-- 'offsidelaw02.PlaceSpreads', WHERE WHAT IT READS IS OF BULK AT MOST 1048576: true; the input reads as it did. -/
def placeSpreadsUptoRow : OpenClaim := { program := "ytmbgfchbjedjnaadoor", sum := "614dcef07c6f565eed5638db4035a50b57e12d34ba8b0648c8cfb2c11fe079f7", func := "offside/offsidelaw02.PlaceSpreads", spec := "placeSpreads", inPlace := ["internal/bytealg.IndexByteString", "internal/bytealg.IndexString", "internal/abi.NoEscape", "internal/bytealg.MakeNoZero"], named := ["unicode/utf8.first", "unicode/utf8.acceptRanges", "internal/bytealg.MaxLen"], apart := false, laid := [("unicode/utf8.acceptRanges", laid_unicode_utf8_acceptRanges), ("unicode/utf8.first", laid_unicode_utf8_first)], narrowed := true }
def PlaceSpreadsUptoSaid : Prop := placeSpreadsUptoRow.holds Tryd.pinned (OpenSpec.upto placeSpreadsSpec)

/-- 'offsidelaw02.PlaceStays', WHERE WHAT IT READS IS OF BULK AT MOST 1048576: true; the input reads as it did. -/
def placeStaysUptoRow : OpenClaim := { program := "ytmbgfchbjedjnaadoor", sum := "614dcef07c6f565eed5638db4035a50b57e12d34ba8b0648c8cfb2c11fe079f7", func := "offside/offsidelaw02.PlaceStays", spec := "placeStays", inPlace := ["internal/bytealg.IndexByteString", "internal/bytealg.IndexString", "internal/abi.NoEscape", "internal/bytealg.MakeNoZero"], named := ["unicode/utf8.first", "unicode/utf8.acceptRanges", "internal/bytealg.MaxLen"], apart := false, laid := [("unicode/utf8.acceptRanges", laid_unicode_utf8_acceptRanges), ("unicode/utf8.first", laid_unicode_utf8_first)], narrowed := true }
def PlaceStaysUptoSaid : Prop := placeStaysUptoRow.holds Tryd.pinned (OpenSpec.upto placeStaysSpec)

end Rows
end Go.Proofs.YtmbgfchbjedjnaaDoor
