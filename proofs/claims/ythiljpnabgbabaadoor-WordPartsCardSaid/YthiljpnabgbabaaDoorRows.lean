/-
  NARROWER THAN 'FOR EVERY INPUT', by the rows' own cells (each row's printed sentence says how): WordScans: laid · WordKinds: laid · WordSplits: laid · WordAparts: laid · WordAlone: laid · WordParts: laid · WordBlank: laid.
  DERIVED. THE GIVEN ROWS OF THIS SEAT. 7 by the template 'for every input the law returns true; each argument reads behind the call as it read before'; 0 by the template 'total and deterministic' (their statements: YthiljpnabgbabaaDoorTotals.lean).
  GIVEN WITH THE SEED: the statements are not yours to turn. If you find one false, say at which input.
  Laid BY PROGRAM, IN A SANDBOX (cutbox-rows.mjs): the forced cells as the released guide's own fill.sh prints them over the translation 51ab57bf176181bb… (all of the seat's roots in one cut). By AI agents, Wed Nov 11 2026. No macro, syntax, notation, axiom, sorry.
-/
import Derived.Test.YthiljpnabgbabaaDoorChecked
import GoSem.PinnedTables
import GoSem.Claim
import GoSem.ClaimJoined
import GoSem.ClaimMapViews
import Derived.JoinedTies
import Derived.KernelRfl
namespace Go.Proofs.YthiljpnabgbabaaDoor
/- THE CELL 'sum', in the pinned program and in every row, IS THE sha256 OF THE DUMP (.gsa) THAT YthiljpnabgbabaaDoorProg.lean LOADS. Nothing in Lean hashes anything: it is a label: what it is worth is what the hold of that sum in a sandbox is worth. -/
noncomputable def Tryd.pinned : Pinned := { name := "ythiljpnabgbabaadoor", sum := "51ab57bf176181bbde5d8b2cb8c33874c7d0605582c945650a0f1e365d233019", checked := Tryd.checked }
namespace Rows
def none {H : Type} : Left H := { results := [], args := [] }

/- WHAT THE LISTED PACKAGE-LEVEL VARIABLES READ AS WHEN THE CALL BEGINS. Each datum BY PROGRAM (the guide's laid-datum.mjs) off the statement by which the dump's own 'gosem.cut.vars' lays the variable. In a bare row this is a premise. The card (YthiljpnabgbabaaDoorCards.lean) ties it to the program's text. -/
def laid_unicode_utf8_acceptRanges {H : Type} : DataW H := .agg [.agg [.lit (.int .u8 128), .lit (.int .u8 191)], .agg [.lit (.int .u8 160), .lit (.int .u8 191)], .agg [.lit (.int .u8 128), .lit (.int .u8 159)], .agg [.lit (.int .u8 144), .lit (.int .u8 191)], .agg [.lit (.int .u8 128), .lit (.int .u8 143)], .agg [.lit (.int .u8 0), .lit (.int .u8 0)], .agg [.lit (.int .u8 0), .lit (.int .u8 0)], .agg [.lit (.int .u8 0), .lit (.int .u8 0)], .agg [.lit (.int .u8 0), .lit (.int .u8 0)], .agg [.lit (.int .u8 0), .lit (.int .u8 0)], .agg [.lit (.int .u8 0), .lit (.int .u8 0)], .agg [.lit (.int .u8 0), .lit (.int .u8 0)], .agg [.lit (.int .u8 0), .lit (.int .u8 0)], .agg [.lit (.int .u8 0), .lit (.int .u8 0)], .agg [.lit (.int .u8 0), .lit (.int .u8 0)], .agg [.lit (.int .u8 0), .lit (.int .u8 0)]]
/-- One of Go's own tables, pinned by name: the form's constant. -/
def laid_unicode_utf8_first : DataW Unit := Go.Pinned.utf8First

/-- 'offsidelaw03.WordScans': WHATEVER THE INPUT: true; the input reads as it did. -/
def wordScansSpec : ChangeSpec := { name := "wordScans", fn := fun _ => fun
  | [d1, d2] => { results := [.lit (.bool true)], args := [d1, d2] }
  | _ => none }
def wordScansRow : OpenClaim := { program := "ythiljpnabgbabaadoor", sum := "51ab57bf176181bbde5d8b2cb8c33874c7d0605582c945650a0f1e365d233019", func := "offside/offsidelaw03.WordScans", spec := "wordScans", named := ["unicode/utf8.first", "unicode/utf8.acceptRanges"], apart := false, laid := [("unicode/utf8.acceptRanges", laid_unicode_utf8_acceptRanges), ("unicode/utf8.first", laid_unicode_utf8_first)] }
def WordScansSaid : Prop := wordScansRow.holds Tryd.pinned (OpenSpec.ofChange wordScansSpec)

/-- ITS FALSE NEIGHBOUR: 'it returns false'. Refute it at one input. -/
def wordScansWrong : ChangeSpec := { name := "wordScans", fn := fun _ => fun
  | [d1, d2] => { results := [.lit (.bool false)], args := [d1, d2] }
  | _ => none }
def WordScansWrongFalsely : Prop := wordScansRow.holds Tryd.pinned (OpenSpec.ofChange wordScansWrong)

/-- 'offsidelaw03.WordKinds': WHATEVER THE INPUT: true; the input reads as it did. -/
def wordKindsSpec : ChangeSpec := { name := "wordKinds", fn := fun _ => fun
  | [d] => { results := [.lit (.bool true)], args := [d] }
  | _ => none }
def wordKindsRow : OpenClaim := { program := "ythiljpnabgbabaadoor", sum := "51ab57bf176181bbde5d8b2cb8c33874c7d0605582c945650a0f1e365d233019", func := "offside/offsidelaw03.WordKinds", spec := "wordKinds", named := ["unicode/utf8.first", "unicode/utf8.acceptRanges"], apart := false, laid := [("unicode/utf8.acceptRanges", laid_unicode_utf8_acceptRanges), ("unicode/utf8.first", laid_unicode_utf8_first)] }
def WordKindsSaid : Prop := wordKindsRow.holds Tryd.pinned (OpenSpec.ofChange wordKindsSpec)

/-- ITS FALSE NEIGHBOUR: 'it returns false'. Refute it at one input. -/
def wordKindsWrong : ChangeSpec := { name := "wordKinds", fn := fun _ => fun
  | [d] => { results := [.lit (.bool false)], args := [d] }
  | _ => none }
def WordKindsWrongFalsely : Prop := wordKindsRow.holds Tryd.pinned (OpenSpec.ofChange wordKindsWrong)

/-- 'offsidelaw03.WordSplits': WHATEVER THE INPUT: true; the input reads as it did. -/
def wordSplitsSpec : ChangeSpec := { name := "wordSplits", fn := fun _ => fun
  | [d] => { results := [.lit (.bool true)], args := [d] }
  | _ => none }
def wordSplitsRow : OpenClaim := { program := "ythiljpnabgbabaadoor", sum := "51ab57bf176181bbde5d8b2cb8c33874c7d0605582c945650a0f1e365d233019", func := "offside/offsidelaw03.WordSplits", spec := "wordSplits", named := ["unicode/utf8.first", "unicode/utf8.acceptRanges"], apart := false, laid := [("unicode/utf8.acceptRanges", laid_unicode_utf8_acceptRanges), ("unicode/utf8.first", laid_unicode_utf8_first)] }
def WordSplitsSaid : Prop := wordSplitsRow.holds Tryd.pinned (OpenSpec.ofChange wordSplitsSpec)

/-- ITS FALSE NEIGHBOUR: 'it returns false'. Refute it at one input. -/
def wordSplitsWrong : ChangeSpec := { name := "wordSplits", fn := fun _ => fun
  | [d] => { results := [.lit (.bool false)], args := [d] }
  | _ => none }
def WordSplitsWrongFalsely : Prop := wordSplitsRow.holds Tryd.pinned (OpenSpec.ofChange wordSplitsWrong)

/-- 'offsidelaw03.WordAparts': WHATEVER THE INPUT: true; the input reads as it did. -/
def wordApartsSpec : ChangeSpec := { name := "wordAparts", fn := fun _ => fun
  | [d1, d2] => { results := [.lit (.bool true)], args := [d1, d2] }
  | _ => none }
def wordApartsRow : OpenClaim := { program := "ythiljpnabgbabaadoor", sum := "51ab57bf176181bbde5d8b2cb8c33874c7d0605582c945650a0f1e365d233019", func := "offside/offsidelaw03.WordAparts", spec := "wordAparts", named := ["unicode/utf8.first", "unicode/utf8.acceptRanges"], apart := false, laid := [("unicode/utf8.acceptRanges", laid_unicode_utf8_acceptRanges), ("unicode/utf8.first", laid_unicode_utf8_first)] }
def WordApartsSaid : Prop := wordApartsRow.holds Tryd.pinned (OpenSpec.ofChange wordApartsSpec)

/-- ITS FALSE NEIGHBOUR: 'it returns false'. Refute it at one input. -/
def wordApartsWrong : ChangeSpec := { name := "wordAparts", fn := fun _ => fun
  | [d1, d2] => { results := [.lit (.bool false)], args := [d1, d2] }
  | _ => none }
def WordApartsWrongFalsely : Prop := wordApartsRow.holds Tryd.pinned (OpenSpec.ofChange wordApartsWrong)

/-- 'offsidelaw03.WordAlone': WHATEVER THE INPUT: true; the input reads as it did. -/
def wordAloneSpec : ChangeSpec := { name := "wordAlone", fn := fun _ => fun
  | [d1, d2, d3] => { results := [.lit (.bool true)], args := [d1, d2, d3] }
  | _ => none }
def wordAloneRow : OpenClaim := { program := "ythiljpnabgbabaadoor", sum := "51ab57bf176181bbde5d8b2cb8c33874c7d0605582c945650a0f1e365d233019", func := "offside/offsidelaw03.WordAlone", spec := "wordAlone", named := ["unicode/utf8.first", "unicode/utf8.acceptRanges"], apart := false, laid := [("unicode/utf8.acceptRanges", laid_unicode_utf8_acceptRanges), ("unicode/utf8.first", laid_unicode_utf8_first)] }
def WordAloneSaid : Prop := wordAloneRow.holds Tryd.pinned (OpenSpec.ofChange wordAloneSpec)

/-- ITS FALSE NEIGHBOUR: 'it returns false'. Refute it at one input. -/
def wordAloneWrong : ChangeSpec := { name := "wordAlone", fn := fun _ => fun
  | [d1, d2, d3] => { results := [.lit (.bool false)], args := [d1, d2, d3] }
  | _ => none }
def WordAloneWrongFalsely : Prop := wordAloneRow.holds Tryd.pinned (OpenSpec.ofChange wordAloneWrong)

/-- 'offsidelaw03.WordParts': WHATEVER THE INPUT: true; the input reads as it did. -/
def wordPartsSpec : ChangeSpec := { name := "wordParts", fn := fun _ => fun
  | [d] => { results := [.lit (.bool true)], args := [d] }
  | _ => none }
def wordPartsRow : OpenClaim := { program := "ythiljpnabgbabaadoor", sum := "51ab57bf176181bbde5d8b2cb8c33874c7d0605582c945650a0f1e365d233019", func := "offside/offsidelaw03.WordParts", spec := "wordParts", named := ["unicode/utf8.first", "unicode/utf8.acceptRanges"], apart := false, laid := [("unicode/utf8.acceptRanges", laid_unicode_utf8_acceptRanges), ("unicode/utf8.first", laid_unicode_utf8_first)] }
def WordPartsSaid : Prop := wordPartsRow.holds Tryd.pinned (OpenSpec.ofChange wordPartsSpec)

/-- ITS FALSE NEIGHBOUR: 'it returns false'. Refute it at one input. -/
def wordPartsWrong : ChangeSpec := { name := "wordParts", fn := fun _ => fun
  | [d] => { results := [.lit (.bool false)], args := [d] }
  | _ => none }
def WordPartsWrongFalsely : Prop := wordPartsRow.holds Tryd.pinned (OpenSpec.ofChange wordPartsWrong)

/-- 'offsidelaw03.WordBlank': WHATEVER THE INPUT: true; the input reads as it did. -/
def wordBlankSpec : ChangeSpec := { name := "wordBlank", fn := fun _ => fun
  | [d1, d2] => { results := [.lit (.bool true)], args := [d1, d2] }
  | _ => none }
def wordBlankRow : OpenClaim := { program := "ythiljpnabgbabaadoor", sum := "51ab57bf176181bbde5d8b2cb8c33874c7d0605582c945650a0f1e365d233019", func := "offside/offsidelaw03.WordBlank", spec := "wordBlank", named := ["unicode/utf8.first", "unicode/utf8.acceptRanges"], apart := false, laid := [("unicode/utf8.acceptRanges", laid_unicode_utf8_acceptRanges), ("unicode/utf8.first", laid_unicode_utf8_first)] }
def WordBlankSaid : Prop := wordBlankRow.holds Tryd.pinned (OpenSpec.ofChange wordBlankSpec)

/-- ITS FALSE NEIGHBOUR: 'it returns false'. Refute it at one input. -/
def wordBlankWrong : ChangeSpec := { name := "wordBlank", fn := fun _ => fun
  | [d1, d2] => { results := [.lit (.bool false)], args := [d1, d2] }
  | _ => none }
def WordBlankWrongFalsely : Prop := wordBlankRow.holds Tryd.pinned (OpenSpec.ofChange wordBlankWrong)

/- THE SECOND FORM. 'bulk': how many values and letters a reading holds, each counted each time it is reached (what is shared counts as often as it is met; a slice's spare places count too). A statement '..UptoSaid' is the law's where the arguments, and the package variables that the reading takes, are together of bulk at most 1048576: NARROWER than '..Said'. Prove '..Said' where nothing that the law and all that it calls make is longer than what came in: it says more and counts as full. Else prove '..UptoSaid'. A law counts once. -/
mutual
def uptoBulk {H : Type} : DataW H → Nat
  | .lit (.string bytes) => bytes.length + 1
  | .lit _ => 1
  | .nil => 1
  | .ptr d => uptoBulk d + 1
  | .slice elems spare => uptoBulkAll elems + uptoBulkAll spare + 1
  | .agg parts => uptoBulkAll parts + 1
  | .iface _ d => uptoBulk d + 1
  | .map entries => uptoBulkEntries entries + 1
  | .held _ => 1
def uptoBulkAll {H : Type} : List (DataW H) → Nat
  | [] => 0
  | d :: r => uptoBulk d + uptoBulkAll r
def uptoBulkEntries {H : Type} : List (Lit × DataW H) → Nat
  | [] => 0
  | x :: r => uptoBulkEntry x + uptoBulkEntries r
def uptoBulkEntry {H : Type} : Lit × DataW H → Nat
  | (.string bytes, d) => bytes.length + uptoBulk d + 1
  | (_, d) => uptoBulk d + 1
 end
def uptoSmall : (H : Type) → List (DataW H) → Bool := fun _ ds => decide (uptoBulkAll ds ≤ 1048576)
def OpenSpec.upto (s : _root_.Go.ChangeSpec) : _root_.Go.OpenSpec := { _root_.Go.OpenSpec.ofChange s with cond := some uptoSmall }

/-- 'offsidelaw03.WordScans', WHERE WHAT IT READS IS OF BULK AT MOST 1048576: true; the input reads as it did. -/
def wordScansUptoRow : OpenClaim := { program := "ythiljpnabgbabaadoor", sum := "51ab57bf176181bbde5d8b2cb8c33874c7d0605582c945650a0f1e365d233019", func := "offside/offsidelaw03.WordScans", spec := "wordScans", named := ["unicode/utf8.first", "unicode/utf8.acceptRanges"], apart := false, laid := [("unicode/utf8.acceptRanges", laid_unicode_utf8_acceptRanges), ("unicode/utf8.first", laid_unicode_utf8_first)], narrowed := true }
def WordScansUptoSaid : Prop := wordScansUptoRow.holds Tryd.pinned (OpenSpec.upto wordScansSpec)

/-- 'offsidelaw03.WordKinds', WHERE WHAT IT READS IS OF BULK AT MOST 1048576: true; the input reads as it did. -/
def wordKindsUptoRow : OpenClaim := { program := "ythiljpnabgbabaadoor", sum := "51ab57bf176181bbde5d8b2cb8c33874c7d0605582c945650a0f1e365d233019", func := "offside/offsidelaw03.WordKinds", spec := "wordKinds", named := ["unicode/utf8.first", "unicode/utf8.acceptRanges"], apart := false, laid := [("unicode/utf8.acceptRanges", laid_unicode_utf8_acceptRanges), ("unicode/utf8.first", laid_unicode_utf8_first)], narrowed := true }
def WordKindsUptoSaid : Prop := wordKindsUptoRow.holds Tryd.pinned (OpenSpec.upto wordKindsSpec)

/-- 'offsidelaw03.WordSplits', WHERE WHAT IT READS IS OF BULK AT MOST 1048576: true; the input reads as it did. -/
def wordSplitsUptoRow : OpenClaim := { program := "ythiljpnabgbabaadoor", sum := "51ab57bf176181bbde5d8b2cb8c33874c7d0605582c945650a0f1e365d233019", func := "offside/offsidelaw03.WordSplits", spec := "wordSplits", named := ["unicode/utf8.first", "unicode/utf8.acceptRanges"], apart := false, laid := [("unicode/utf8.acceptRanges", laid_unicode_utf8_acceptRanges), ("unicode/utf8.first", laid_unicode_utf8_first)], narrowed := true }
def WordSplitsUptoSaid : Prop := wordSplitsUptoRow.holds Tryd.pinned (OpenSpec.upto wordSplitsSpec)

/-- 'offsidelaw03.WordAparts', WHERE WHAT IT READS IS OF BULK AT MOST 1048576: true; the input reads as it did. -/
def wordApartsUptoRow : OpenClaim := { program := "ythiljpnabgbabaadoor", sum := "51ab57bf176181bbde5d8b2cb8c33874c7d0605582c945650a0f1e365d233019", func := "offside/offsidelaw03.WordAparts", spec := "wordAparts", named := ["unicode/utf8.first", "unicode/utf8.acceptRanges"], apart := false, laid := [("unicode/utf8.acceptRanges", laid_unicode_utf8_acceptRanges), ("unicode/utf8.first", laid_unicode_utf8_first)], narrowed := true }
def WordApartsUptoSaid : Prop := wordApartsUptoRow.holds Tryd.pinned (OpenSpec.upto wordApartsSpec)

/-- 'offsidelaw03.WordAlone', WHERE WHAT IT READS IS OF BULK AT MOST 1048576: true; the input reads as it did. -/
def wordAloneUptoRow : OpenClaim := { program := "ythiljpnabgbabaadoor", sum := "51ab57bf176181bbde5d8b2cb8c33874c7d0605582c945650a0f1e365d233019", func := "offside/offsidelaw03.WordAlone", spec := "wordAlone", named := ["unicode/utf8.first", "unicode/utf8.acceptRanges"], apart := false, laid := [("unicode/utf8.acceptRanges", laid_unicode_utf8_acceptRanges), ("unicode/utf8.first", laid_unicode_utf8_first)], narrowed := true }
def WordAloneUptoSaid : Prop := wordAloneUptoRow.holds Tryd.pinned (OpenSpec.upto wordAloneSpec)

/-- 'offsidelaw03.WordParts', WHERE WHAT IT READS IS OF BULK AT MOST 1048576: true; the input reads as it did. -/
def wordPartsUptoRow : OpenClaim := { program := "ythiljpnabgbabaadoor", sum := "51ab57bf176181bbde5d8b2cb8c33874c7d0605582c945650a0f1e365d233019", func := "offside/offsidelaw03.WordParts", spec := "wordParts", named := ["unicode/utf8.first", "unicode/utf8.acceptRanges"], apart := false, laid := [("unicode/utf8.acceptRanges", laid_unicode_utf8_acceptRanges), ("unicode/utf8.first", laid_unicode_utf8_first)], narrowed := true }
def WordPartsUptoSaid : Prop := wordPartsUptoRow.holds Tryd.pinned (OpenSpec.upto wordPartsSpec)

/-- 'offsidelaw03.WordBlank', WHERE WHAT IT READS IS OF BULK AT MOST 1048576: true; the input reads as it did. -/
def wordBlankUptoRow : OpenClaim := { program := "ythiljpnabgbabaadoor", sum := "51ab57bf176181bbde5d8b2cb8c33874c7d0605582c945650a0f1e365d233019", func := "offside/offsidelaw03.WordBlank", spec := "wordBlank", named := ["unicode/utf8.first", "unicode/utf8.acceptRanges"], apart := false, laid := [("unicode/utf8.acceptRanges", laid_unicode_utf8_acceptRanges), ("unicode/utf8.first", laid_unicode_utf8_first)], narrowed := true }
def WordBlankUptoSaid : Prop := wordBlankUptoRow.holds Tryd.pinned (OpenSpec.upto wordBlankSpec)

end Rows
end Go.Proofs.YthiljpnabgbabaaDoor
