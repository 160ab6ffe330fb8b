/-
  NARROWER THAN 'FOR EVERY INPUT', by the rows' own cells (each row's printed sentence says how): NoteScans: laid · NoteKinds: laid · NoteLines: laid · NoteTidies: laid · NoteClean: laid · NoteWhole: laid · NoteSames: laid · NoteStays: laid.
  DERIVED. THE GIVEN ROWS OF THIS SEAT. 8 by the template 'for every input the law returns true; each argument reads behind the call as it read before'; 0 by the template 'total and deterministic' (their statements: YthhlnahehpigeaaDoorTotals.lean).
  GIVEN WITH THE SEED: the statements are not yours to turn. If you find one false, say at which input.
  Laid BY PROGRAM, IN A SANDBOX (cutbox-rows.mjs): the forced cells as the released guide's own fill.sh prints them over the translation ab2852376b9b4c04… (all of the seat's roots in one cut). By AI agents, Wed Nov 11 2026. No macro, syntax, notation, axiom, sorry.
-/
import Derived.Test.YthhlnahehpigeaaDoorChecked
import GoSem.PinnedTables
import GoSem.Claim
import GoSem.ClaimJoined
import GoSem.ClaimMapViews
import Derived.JoinedTies
import Derived.KernelRfl
namespace Go.Proofs.YthhlnahehpigeaaDoor
/- THE CELL 'sum', in the pinned program and in every row, IS THE sha256 OF THE DUMP (.gsa) THAT YthhlnahehpigeaaDoorProg.lean LOADS. Nothing in Lean hashes anything: it is a label: what it is worth is what the hold of that sum in a sandbox is worth. -/
noncomputable def Tryd.pinned : Pinned := { name := "ythhlnahehpigeaadoor", sum := "ab2852376b9b4c041f2ef394f891a55a9149a45ac84954deb479f236df5cbb4a", checked := Tryd.checked }
namespace Rows
def none {H : Type} : Left H := { results := [], args := [] }

/- WHAT THE LISTED PACKAGE-LEVEL VARIABLES READ AS WHEN THE CALL BEGINS. Each datum BY PROGRAM (the guide's laid-datum.mjs) off the statement by which the dump's own 'gosem.cut.vars' lays the variable. In a bare row this is a premise. The card (YthhlnahehpigeaaDoorCards.lean) ties it to the program's text. -/
def laid_unicode_utf8_acceptRanges {H : Type} : DataW H := .agg [.agg [.lit (.int .u8 128), .lit (.int .u8 191)], .agg [.lit (.int .u8 160), .lit (.int .u8 191)], .agg [.lit (.int .u8 128), .lit (.int .u8 159)], .agg [.lit (.int .u8 144), .lit (.int .u8 191)], .agg [.lit (.int .u8 128), .lit (.int .u8 143)], .agg [.lit (.int .u8 0), .lit (.int .u8 0)], .agg [.lit (.int .u8 0), .lit (.int .u8 0)], .agg [.lit (.int .u8 0), .lit (.int .u8 0)], .agg [.lit (.int .u8 0), .lit (.int .u8 0)], .agg [.lit (.int .u8 0), .lit (.int .u8 0)], .agg [.lit (.int .u8 0), .lit (.int .u8 0)], .agg [.lit (.int .u8 0), .lit (.int .u8 0)], .agg [.lit (.int .u8 0), .lit (.int .u8 0)], .agg [.lit (.int .u8 0), .lit (.int .u8 0)], .agg [.lit (.int .u8 0), .lit (.int .u8 0)], .agg [.lit (.int .u8 0), .lit (.int .u8 0)]]
/-- One of Go's own tables, pinned by name: the form's constant. -/
def laid_unicode_utf8_first : DataW Unit := Go.Pinned.utf8First

/-- 'offsidelaw06.NoteScans': WHATEVER THE INPUT: true; the input reads as it did. -/
def noteScansSpec : ChangeSpec := { name := "noteScans", fn := fun _ => fun
  | [d1, d2] => { results := [.lit (.bool true)], args := [d1, d2] }
  | _ => none }
def noteScansRow : OpenClaim := { program := "ythhlnahehpigeaadoor", sum := "ab2852376b9b4c041f2ef394f891a55a9149a45ac84954deb479f236df5cbb4a", func := "offside/offsidelaw06.NoteScans", spec := "noteScans", inPlace := ["internal/bytealg.IndexByteString", "internal/bytealg.IndexString", "internal/bytealg.CountString", "internal/abi.NoEscape", "internal/bytealg.MakeNoZero"], named := ["unicode/utf8.first", "unicode/utf8.acceptRanges", "internal/bytealg.MaxLen"], apart := false, laid := [("unicode/utf8.acceptRanges", laid_unicode_utf8_acceptRanges), ("unicode/utf8.first", laid_unicode_utf8_first)] }
def NoteScansSaid : Prop := noteScansRow.holds Tryd.pinned (OpenSpec.ofChange noteScansSpec)

/-- ITS FALSE NEIGHBOUR: 'it returns false'. Refute it at one input. -/
def noteScansWrong : ChangeSpec := { name := "noteScans", fn := fun _ => fun
  | [d1, d2] => { results := [.lit (.bool false)], args := [d1, d2] }
  | _ => none }
def NoteScansWrongFalsely : Prop := noteScansRow.holds Tryd.pinned (OpenSpec.ofChange noteScansWrong)

/-- 'offsidelaw06.NoteKinds': WHATEVER THE INPUT: true; the input reads as it did. -/
def noteKindsSpec : ChangeSpec := { name := "noteKinds", fn := fun _ => fun
  | [d] => { results := [.lit (.bool true)], args := [d] }
  | _ => none }
def noteKindsRow : OpenClaim := { program := "ythhlnahehpigeaadoor", sum := "ab2852376b9b4c041f2ef394f891a55a9149a45ac84954deb479f236df5cbb4a", func := "offside/offsidelaw06.NoteKinds", spec := "noteKinds", inPlace := ["internal/bytealg.IndexByteString", "internal/bytealg.IndexString", "internal/bytealg.CountString", "internal/abi.NoEscape", "internal/bytealg.MakeNoZero"], named := ["unicode/utf8.first", "unicode/utf8.acceptRanges", "internal/bytealg.MaxLen"], apart := false, laid := [("unicode/utf8.acceptRanges", laid_unicode_utf8_acceptRanges), ("unicode/utf8.first", laid_unicode_utf8_first)] }
def NoteKindsSaid : Prop := noteKindsRow.holds Tryd.pinned (OpenSpec.ofChange noteKindsSpec)

/-- ITS FALSE NEIGHBOUR: 'it returns false'. Refute it at one input. -/
def noteKindsWrong : ChangeSpec := { name := "noteKinds", fn := fun _ => fun
  | [d] => { results := [.lit (.bool false)], args := [d] }
  | _ => none }
def NoteKindsWrongFalsely : Prop := noteKindsRow.holds Tryd.pinned (OpenSpec.ofChange noteKindsWrong)

/-- 'offsidelaw06.NoteLines': WHATEVER THE INPUT: true; the input reads as it did. -/
def noteLinesSpec : ChangeSpec := { name := "noteLines", fn := fun _ => fun
  | [d] => { results := [.lit (.bool true)], args := [d] }
  | _ => none }
def noteLinesRow : OpenClaim := { program := "ythhlnahehpigeaadoor", sum := "ab2852376b9b4c041f2ef394f891a55a9149a45ac84954deb479f236df5cbb4a", func := "offside/offsidelaw06.NoteLines", spec := "noteLines", inPlace := ["internal/bytealg.IndexByteString", "internal/bytealg.IndexString", "internal/bytealg.CountString", "internal/abi.NoEscape", "internal/bytealg.MakeNoZero"], named := ["unicode/utf8.first", "unicode/utf8.acceptRanges", "internal/bytealg.MaxLen"], apart := false, laid := [("unicode/utf8.acceptRanges", laid_unicode_utf8_acceptRanges), ("unicode/utf8.first", laid_unicode_utf8_first)] }
def NoteLinesSaid : Prop := noteLinesRow.holds Tryd.pinned (OpenSpec.ofChange noteLinesSpec)

/-- ITS FALSE NEIGHBOUR: 'it returns false'. Refute it at one input. -/
def noteLinesWrong : ChangeSpec := { name := "noteLines", fn := fun _ => fun
  | [d] => { results := [.lit (.bool false)], args := [d] }
  | _ => none }
def NoteLinesWrongFalsely : Prop := noteLinesRow.holds Tryd.pinned (OpenSpec.ofChange noteLinesWrong)

/-- 'offsidelaw06.NoteTidies': WHATEVER THE INPUT: true; the input reads as it did. -/
def noteTidiesSpec : ChangeSpec := { name := "noteTidies", fn := fun _ => fun
  | [d1, d2] => { results := [.lit (.bool true)], args := [d1, d2] }
  | _ => none }
def noteTidiesRow : OpenClaim := { program := "ythhlnahehpigeaadoor", sum := "ab2852376b9b4c041f2ef394f891a55a9149a45ac84954deb479f236df5cbb4a", func := "offside/offsidelaw06.NoteTidies", spec := "noteTidies", inPlace := ["internal/bytealg.IndexByteString", "internal/bytealg.IndexString", "internal/bytealg.CountString", "internal/abi.NoEscape", "internal/bytealg.MakeNoZero"], named := ["unicode/utf8.first", "unicode/utf8.acceptRanges", "internal/bytealg.MaxLen"], apart := false, laid := [("unicode/utf8.acceptRanges", laid_unicode_utf8_acceptRanges), ("unicode/utf8.first", laid_unicode_utf8_first)] }
def NoteTidiesSaid : Prop := noteTidiesRow.holds Tryd.pinned (OpenSpec.ofChange noteTidiesSpec)

/-- ITS FALSE NEIGHBOUR: 'it returns false'. Refute it at one input. -/
def noteTidiesWrong : ChangeSpec := { name := "noteTidies", fn := fun _ => fun
  | [d1, d2] => { results := [.lit (.bool false)], args := [d1, d2] }
  | _ => none }
def NoteTidiesWrongFalsely : Prop := noteTidiesRow.holds Tryd.pinned (OpenSpec.ofChange noteTidiesWrong)

/-- 'offsidelaw06.NoteClean': WHATEVER THE INPUT: true; the input reads as it did. -/
def noteCleanSpec : ChangeSpec := { name := "noteClean", fn := fun _ => fun
  | [d1, d2] => { results := [.lit (.bool true)], args := [d1, d2] }
  | _ => none }
def noteCleanRow : OpenClaim := { program := "ythhlnahehpigeaadoor", sum := "ab2852376b9b4c041f2ef394f891a55a9149a45ac84954deb479f236df5cbb4a", func := "offside/offsidelaw06.NoteClean", spec := "noteClean", inPlace := ["internal/bytealg.IndexByteString", "internal/bytealg.IndexString", "internal/bytealg.CountString", "internal/abi.NoEscape", "internal/bytealg.MakeNoZero"], named := ["unicode/utf8.first", "unicode/utf8.acceptRanges", "internal/bytealg.MaxLen"], apart := false, laid := [("unicode/utf8.acceptRanges", laid_unicode_utf8_acceptRanges), ("unicode/utf8.first", laid_unicode_utf8_first)] }
def NoteCleanSaid : Prop := noteCleanRow.holds Tryd.pinned (OpenSpec.ofChange noteCleanSpec)

/-- ITS FALSE NEIGHBOUR: 'it returns false'. Refute it at one input. -/
def noteCleanWrong : ChangeSpec := { name := "noteClean", fn := fun _ => fun
  | [d1, d2] => { results := [.lit (.bool false)], args := [d1, d2] }
  | _ => none }
def NoteCleanWrongFalsely : Prop := noteCleanRow.holds Tryd.pinned (OpenSpec.ofChange noteCleanWrong)

/-- 'offsidelaw06.NoteWhole': WHATEVER THE INPUT: true; the input reads as it did. -/
def noteWholeSpec : ChangeSpec := { name := "noteWhole", fn := fun _ => fun
  | [d1, d2, d3] => { results := [.lit (.bool true)], args := [d1, d2, d3] }
  | _ => none }
def noteWholeRow : OpenClaim := { program := "ythhlnahehpigeaadoor", sum := "ab2852376b9b4c041f2ef394f891a55a9149a45ac84954deb479f236df5cbb4a", func := "offside/offsidelaw06.NoteWhole", spec := "noteWhole", inPlace := ["internal/bytealg.IndexByteString", "internal/bytealg.IndexString", "internal/bytealg.CountString", "internal/abi.NoEscape", "internal/bytealg.MakeNoZero"], named := ["unicode/utf8.first", "unicode/utf8.acceptRanges", "internal/bytealg.MaxLen"], apart := false, laid := [("unicode/utf8.acceptRanges", laid_unicode_utf8_acceptRanges), ("unicode/utf8.first", laid_unicode_utf8_first)] }
def NoteWholeSaid : Prop := noteWholeRow.holds Tryd.pinned (OpenSpec.ofChange noteWholeSpec)

/-- ITS FALSE NEIGHBOUR: 'it returns false'. Refute it at one input. -/
def noteWholeWrong : ChangeSpec := { name := "noteWhole", fn := fun _ => fun
  | [d1, d2, d3] => { results := [.lit (.bool false)], args := [d1, d2, d3] }
  | _ => none }
def NoteWholeWrongFalsely : Prop := noteWholeRow.holds Tryd.pinned (OpenSpec.ofChange noteWholeWrong)

/-- 'offsidelaw06.NoteSames': WHATEVER THE INPUT: true; the input reads as it did. -/
def noteSamesSpec : ChangeSpec := { name := "noteSames", fn := fun _ => fun
  | [d1, d2] => { results := [.lit (.bool true)], args := [d1, d2] }
  | _ => none }
def noteSamesRow : OpenClaim := { program := "ythhlnahehpigeaadoor", sum := "ab2852376b9b4c041f2ef394f891a55a9149a45ac84954deb479f236df5cbb4a", func := "offside/offsidelaw06.NoteSames", spec := "noteSames", inPlace := ["internal/bytealg.IndexByteString", "internal/bytealg.IndexString", "internal/bytealg.CountString", "internal/abi.NoEscape", "internal/bytealg.MakeNoZero"], named := ["unicode/utf8.first", "unicode/utf8.acceptRanges", "internal/bytealg.MaxLen"], apart := false, laid := [("unicode/utf8.acceptRanges", laid_unicode_utf8_acceptRanges), ("unicode/utf8.first", laid_unicode_utf8_first)] }
def NoteSamesSaid : Prop := noteSamesRow.holds Tryd.pinned (OpenSpec.ofChange noteSamesSpec)

/-- ITS FALSE NEIGHBOUR: 'it returns false'. Refute it at one input. -/
def noteSamesWrong : ChangeSpec := { name := "noteSames", fn := fun _ => fun
  | [d1, d2] => { results := [.lit (.bool false)], args := [d1, d2] }
  | _ => none }
def NoteSamesWrongFalsely : Prop := noteSamesRow.holds Tryd.pinned (OpenSpec.ofChange noteSamesWrong)

/-- 'offsidelaw06.NoteStays': WHATEVER THE INPUT: true; the input reads as it did. -/
def noteStaysSpec : ChangeSpec := { name := "noteStays", fn := fun _ => fun
  | [d1, d2] => { results := [.lit (.bool true)], args := [d1, d2] }
  | _ => none }
def noteStaysRow : OpenClaim := { program := "ythhlnahehpigeaadoor", sum := "ab2852376b9b4c041f2ef394f891a55a9149a45ac84954deb479f236df5cbb4a", func := "offside/offsidelaw06.NoteStays", spec := "noteStays", inPlace := ["internal/bytealg.IndexByteString", "internal/bytealg.IndexString", "internal/bytealg.CountString", "internal/abi.NoEscape", "internal/bytealg.MakeNoZero"], named := ["unicode/utf8.first", "unicode/utf8.acceptRanges", "internal/bytealg.MaxLen"], apart := false, laid := [("unicode/utf8.acceptRanges", laid_unicode_utf8_acceptRanges), ("unicode/utf8.first", laid_unicode_utf8_first)] }
def NoteStaysSaid : Prop := noteStaysRow.holds Tryd.pinned (OpenSpec.ofChange noteStaysSpec)

/-- ITS FALSE NEIGHBOUR: 'it returns false'. Refute it at one input. -/
def noteStaysWrong : ChangeSpec := { name := "noteStays", fn := fun _ => fun
  | [d1, d2] => { results := [.lit (.bool false)], args := [d1, d2] }
  | _ => none }
def NoteStaysWrongFalsely : Prop := noteStaysRow.holds Tryd.pinned (OpenSpec.ofChange noteStaysWrong)

/- THE SECOND FORM. 'bulk': how many values and letters a reading holds, each counted each time it is reached (what is shared counts as often as it is met; a slice's spare places count too). A statement '..UptoSaid' is the law's where the arguments, and the package variables that the reading takes, are together of bulk at most 1048576: NARROWER than '..Said'. Prove '..Said' where nothing that the law and all that it calls make is longer than what came in: it says more and counts as full. Else prove '..UptoSaid'. A law counts once. -/
mutual
def uptoBulk {H : Type} : DataW H → Nat
  | .lit (.string bytes) => bytes.length + 1
  | .lit _ => 1
  | .nil => 1
  | .ptr d => uptoBulk d + 1
  | .slice elems spare => uptoBulkAll elems + uptoBulkAll spare + 1
  | .agg parts => uptoBulkAll parts + 1
  | .iface _ d => uptoBulk d + 1
  | .map entries => uptoBulkEntries entries + 1
  | .held _ => 1
def uptoBulkAll {H : Type} : List (DataW H) → Nat
  | [] => 0
  | d :: r => uptoBulk d + uptoBulkAll r
def uptoBulkEntries {H : Type} : List (Lit × DataW H) → Nat
  | [] => 0
  | x :: r => uptoBulkEntry x + uptoBulkEntries r
def uptoBulkEntry {H : Type} : Lit × DataW H → Nat
  | (.string bytes, d) => bytes.length + uptoBulk d + 1
  | (_, d) => uptoBulk d + 1
 end
def uptoSmall : (H : Type) → List (DataW H) → Bool := fun _ ds => decide (uptoBulkAll ds ≤ 1048576)
def OpenSpec.upto (s : _root_.Go.ChangeSpec) : _root_.Go.OpenSpec := { _root_.Go.OpenSpec.ofChange s with cond := some uptoSmall }

/-- 'offsidelaw06.NoteScans', WHERE WHAT IT READS IS OF BULK AT MOST 1048576: true; the input reads as it did. -/
def noteScansUptoRow : OpenClaim := { program := "ythhlnahehpigeaadoor", sum := "ab2852376b9b4c041f2ef394f891a55a9149a45ac84954deb479f236df5cbb4a", func := "offside/offsidelaw06.NoteScans", spec := "noteScans", inPlace := ["internal/bytealg.IndexByteString", "internal/bytealg.IndexString", "internal/bytealg.CountString", "internal/abi.NoEscape", "internal/bytealg.MakeNoZero"], named := ["unicode/utf8.first", "unicode/utf8.acceptRanges", "internal/bytealg.MaxLen"], apart := false, laid := [("unicode/utf8.acceptRanges", laid_unicode_utf8_acceptRanges), ("unicode/utf8.first", laid_unicode_utf8_first)], narrowed := true }
def NoteScansUptoSaid : Prop := noteScansUptoRow.holds Tryd.pinned (OpenSpec.upto noteScansSpec)

/-- 'offsidelaw06.NoteKinds', WHERE WHAT IT READS IS OF BULK AT MOST 1048576: true; the input reads as it did. -/
def noteKindsUptoRow : OpenClaim := { program := "ythhlnahehpigeaadoor", sum := "ab2852376b9b4c041f2ef394f891a55a9149a45ac84954deb479f236df5cbb4a", func := "offside/offsidelaw06.NoteKinds", spec := "noteKinds", inPlace := ["internal/bytealg.IndexByteString", "internal/bytealg.IndexString", "internal/bytealg.CountString", "internal/abi.NoEscape", "internal/bytealg.MakeNoZero"], named := ["unicode/utf8.first", "unicode/utf8.acceptRanges", "internal/bytealg.MaxLen"], apart := false, laid := [("unicode/utf8.acceptRanges", laid_unicode_utf8_acceptRanges), ("unicode/utf8.first", laid_unicode_utf8_first)], narrowed := true }
def NoteKindsUptoSaid : Prop := noteKindsUptoRow.holds Tryd.pinned (OpenSpec.upto noteKindsSpec)

/-- 'offsidelaw06.NoteLines', WHERE WHAT IT READS IS OF BULK AT MOST 1048576: true; the input reads as it did. -/
def noteLinesUptoRow : OpenClaim := { program := "ythhlnahehpigeaadoor", sum := "ab2852376b9b4c041f2ef394f891a55a9149a45ac84954deb479f236df5cbb4a", func := "offside/offsidelaw06.NoteLines", spec := "noteLines", inPlace := ["internal/bytealg.IndexByteString", "internal/bytealg.IndexString", "internal/bytealg.CountString", "internal/abi.NoEscape", "internal/bytealg.MakeNoZero"], named := ["unicode/utf8.first", "unicode/utf8.acceptRanges", "internal/bytealg.MaxLen"], apart := false, laid := [("unicode/utf8.acceptRanges", laid_unicode_utf8_acceptRanges), ("unicode/utf8.first", laid_unicode_utf8_first)], narrowed := true }
def NoteLinesUptoSaid : Prop := noteLinesUptoRow.holds Tryd.pinned (OpenSpec.upto noteLinesSpec)

/-- 'offsidelaw06.NoteTidies', WHERE WHAT IT READS IS OF BULK AT MOST 1048576: true; the input reads as it did. -/
def noteTidiesUptoRow : OpenClaim := { program := "ythhlnahehpigeaadoor", sum := "ab2852376b9b4c041f2ef394f891a55a9149a45ac84954deb479f236df5cbb4a", func := "offside/offsidelaw06.NoteTidies", spec := "noteTidies", inPlace := ["internal/bytealg.IndexByteString", "internal/bytealg.IndexString", "internal/bytealg.CountString", "internal/abi.NoEscape", "internal/bytealg.MakeNoZero"], named := ["unicode/utf8.first", "unicode/utf8.acceptRanges", "internal/bytealg.MaxLen"], apart := false, laid := [("unicode/utf8.acceptRanges", laid_unicode_utf8_acceptRanges), ("unicode/utf8.first", laid_unicode_utf8_first)], narrowed := true }
def NoteTidiesUptoSaid : Prop := noteTidiesUptoRow.holds Tryd.pinned (OpenSpec.upto noteTidiesSpec)

/-- 'offsidelaw06.NoteClean', WHERE WHAT IT READS IS OF BULK AT MOST 1048576: true; the input reads as it did. -/
def noteCleanUptoRow : OpenClaim := { program := "ythhlnahehpigeaadoor", sum := "ab2852376b9b4c041f2ef394f891a55a9149a45ac84954deb479f236df5cbb4a", func := "offside/offsidelaw06.NoteClean", spec := "noteClean", inPlace := ["internal/bytealg.IndexByteString", "internal/bytealg.IndexString", "internal/bytealg.CountString", "internal/abi.NoEscape", "internal/bytealg.MakeNoZero"], named := ["unicode/utf8.first", "unicode/utf8.acceptRanges", "internal/bytealg.MaxLen"], apart := false, laid := [("unicode/utf8.acceptRanges", laid_unicode_utf8_acceptRanges), ("unicode/utf8.first", laid_unicode_utf8_first)], narrowed := true }
def NoteCleanUptoSaid : Prop := noteCleanUptoRow.holds Tryd.pinned (OpenSpec.upto noteCleanSpec)

/-- 'offsidelaw06.NoteWhole', WHERE WHAT IT READS IS OF BULK AT MOST 1048576: true; the input reads as it did. -/
def noteWholeUptoRow : OpenClaim := { program := "ythhlnahehpigeaadoor", sum := "ab2852376b9b4c041f2ef394f891a55a9149a45ac84954deb479f236df5cbb4a", func := "offside/offsidelaw06.NoteWhole", spec := "noteWhole", inPlace := ["internal/bytealg.IndexByteString", "internal/bytealg.IndexString", "internal/bytealg.CountString", "internal/abi.NoEscape", "internal/bytealg.MakeNoZero"], named := ["unicode/utf8.first", "unicode/utf8.acceptRanges", "internal/bytealg.MaxLen"], apart := false, laid := [("unicode/utf8.acceptRanges", laid_unicode_utf8_acceptRanges), ("unicode/utf8.first", laid_unicode_utf8_first)], narrowed := true }
def NoteWholeUptoSaid : Prop := noteWholeUptoRow.holds Tryd.pinned (OpenSpec.upto noteWholeSpec)

/-- 'offsidelaw06.NoteSames', WHERE WHAT IT READS IS OF BULK AT MOST 1048576: true; the input reads as it did. -/
def noteSamesUptoRow : OpenClaim := { program := "ythhlnahehpigeaadoor", sum := "ab2852376b9b4c041f2ef394f891a55a9149a45ac84954deb479f236df5cbb4a", func := "offside/offsidelaw06.NoteSames", spec := "noteSames", inPlace := ["internal/bytealg.IndexByteString", "internal/bytealg.IndexString", "internal/bytealg.CountString", "internal/abi.NoEscape", "internal/bytealg.MakeNoZero"], named := ["unicode/utf8.first", "unicode/utf8.acceptRanges", "internal/bytealg.MaxLen"], apart := false, laid := [("unicode/utf8.acceptRanges", laid_unicode_utf8_acceptRanges), ("unicode/utf8.first", laid_unicode_utf8_first)], narrowed := true }
def NoteSamesUptoSaid : Prop := noteSamesUptoRow.holds Tryd.pinned (OpenSpec.upto noteSamesSpec)

/-- 'offsidelaw06.NoteStays', WHERE WHAT IT READS IS OF BULK AT MOST 1048576: true; the input reads as it did. -/
def noteStaysUptoRow : OpenClaim := { program := "ythhlnahehpigeaadoor", sum := "ab2852376b9b4c041f2ef394f891a55a9149a45ac84954deb479f236df5cbb4a", func := "offside/offsidelaw06.NoteStays", spec := "noteStays", inPlace := ["internal/bytealg.IndexByteString", "internal/bytealg.IndexString", "internal/bytealg.CountString", "internal/abi.NoEscape", "internal/bytealg.MakeNoZero"], named := ["unicode/utf8.first", "unicode/utf8.acceptRanges", "internal/bytealg.MaxLen"], apart := false, laid := [("unicode/utf8.acceptRanges", laid_unicode_utf8_acceptRanges), ("unicode/utf8.first", laid_unicode_utf8_first)], narrowed := true }
def NoteStaysUptoSaid : Prop := noteStaysUptoRow.holds Tryd.pinned (OpenSpec.upto noteStaysSpec)

end Rows
end Go.Proofs.YthhlnahehpigeaaDoor
