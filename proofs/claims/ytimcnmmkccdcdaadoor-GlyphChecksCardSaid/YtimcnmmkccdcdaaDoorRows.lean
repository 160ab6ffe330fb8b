/-
  NARROWER THAN 'FOR EVERY INPUT', by the rows' own cells (each row's printed sentence says how): GlyphNexts: laid · GlyphClasses: laid · GlyphDigits: laid · GlyphPieces: laid · GlyphChecks: laid · GlyphJoined: laid.
  DERIVED. THE GIVEN ROWS OF THIS SEAT. 6 by the template 'for every input the law returns true; each argument reads behind the call as it read before'; 0 by the template 'total and deterministic' (their statements: YtimcnmmkccdcdaaDoorTotals.lean).
  GIVEN WITH THE SEED: the statements are not yours to turn. If you find one false, say at which input.
  Laid BY PROGRAM, IN A SANDBOX (cutbox-rows.mjs): the forced cells as the released guide's own fill.sh prints them over the translation 76a65f4de61ed7db… (all of the seat's roots in one cut). By AI agents, Wed Nov 11 2026. No macro, syntax, notation, axiom, sorry.
-/
import Derived.Test.YtimcnmmkccdcdaaDoorChecked
import GoSem.PinnedTables
import GoSem.Claim
import GoSem.ClaimJoined
import GoSem.ClaimMapViews
import Derived.JoinedTies
import Derived.KernelRfl
namespace Go.Proofs.YtimcnmmkccdcdaaDoor
/- THE CELL 'sum', in the pinned program and in every row, IS THE sha256 OF THE DUMP (.gsa) THAT YtimcnmmkccdcdaaDoorProg.lean LOADS. Nothing in Lean hashes anything: it is a label: what it is worth is what the hold of that sum in a sandbox is worth. -/
noncomputable def Tryd.pinned : Pinned := { name := "ytimcnmmkccdcdaadoor", sum := "76a65f4de61ed7db43b842400e2148c491820f984847b575daff49a96f317be8", checked := Tryd.checked }
namespace Rows
def none {H : Type} : Left H := { results := [], args := [] }

/- WHAT THE LISTED PACKAGE-LEVEL VARIABLES READ AS WHEN THE CALL BEGINS. Each datum BY PROGRAM (the guide's laid-datum.mjs) off the statement by which the dump's own 'gosem.cut.vars' lays the variable. In a bare row this is a premise. The card (YtimcnmmkccdcdaaDoorCards.lean) ties it to the program's text. -/
def laid_unicode_utf8_acceptRanges {H : Type} : DataW H := .agg [.agg [.lit (.int .u8 128), .lit (.int .u8 191)], .agg [.lit (.int .u8 160), .lit (.int .u8 191)], .agg [.lit (.int .u8 128), .lit (.int .u8 159)], .agg [.lit (.int .u8 144), .lit (.int .u8 191)], .agg [.lit (.int .u8 128), .lit (.int .u8 143)], .agg [.lit (.int .u8 0), .lit (.int .u8 0)], .agg [.lit (.int .u8 0), .lit (.int .u8 0)], .agg [.lit (.int .u8 0), .lit (.int .u8 0)], .agg [.lit (.int .u8 0), .lit (.int .u8 0)], .agg [.lit (.int .u8 0), .lit (.int .u8 0)], .agg [.lit (.int .u8 0), .lit (.int .u8 0)], .agg [.lit (.int .u8 0), .lit (.int .u8 0)], .agg [.lit (.int .u8 0), .lit (.int .u8 0)], .agg [.lit (.int .u8 0), .lit (.int .u8 0)], .agg [.lit (.int .u8 0), .lit (.int .u8 0)], .agg [.lit (.int .u8 0), .lit (.int .u8 0)]]
/-- One of Go's own tables, pinned by name: the form's constant. -/
def laid_unicode_utf8_first : DataW Unit := Go.Pinned.utf8First

/-- 'offsidelaw01.GlyphNexts': WHATEVER THE INPUT: true; the input reads as it did. -/
def glyphNextsSpec : ChangeSpec := { name := "glyphNexts", fn := fun _ => fun
  | [d1, d2] => { results := [.lit (.bool true)], args := [d1, d2] }
  | _ => none }
def glyphNextsRow : OpenClaim := { program := "ytimcnmmkccdcdaadoor", sum := "76a65f4de61ed7db43b842400e2148c491820f984847b575daff49a96f317be8", func := "offside/offsidelaw01.GlyphNexts", spec := "glyphNexts", named := ["unicode/utf8.first", "unicode/utf8.acceptRanges"], apart := false, laid := [("unicode/utf8.acceptRanges", laid_unicode_utf8_acceptRanges), ("unicode/utf8.first", laid_unicode_utf8_first)] }
def GlyphNextsSaid : Prop := glyphNextsRow.holds Tryd.pinned (OpenSpec.ofChange glyphNextsSpec)

/-- ITS FALSE NEIGHBOUR: 'it returns false'. Refute it at one input. -/
def glyphNextsWrong : ChangeSpec := { name := "glyphNexts", fn := fun _ => fun
  | [d1, d2] => { results := [.lit (.bool false)], args := [d1, d2] }
  | _ => none }
def GlyphNextsWrongFalsely : Prop := glyphNextsRow.holds Tryd.pinned (OpenSpec.ofChange glyphNextsWrong)

/-- 'offsidelaw01.GlyphClasses': WHATEVER THE INPUT: true; the input reads as it did. -/
def glyphClassesSpec : ChangeSpec := { name := "glyphClasses", fn := fun _ => fun
  | [d] => { results := [.lit (.bool true)], args := [d] }
  | _ => none }
def glyphClassesRow : OpenClaim := { program := "ytimcnmmkccdcdaadoor", sum := "76a65f4de61ed7db43b842400e2148c491820f984847b575daff49a96f317be8", func := "offside/offsidelaw01.GlyphClasses", spec := "glyphClasses", named := ["unicode/utf8.first", "unicode/utf8.acceptRanges"], apart := false, laid := [("unicode/utf8.acceptRanges", laid_unicode_utf8_acceptRanges), ("unicode/utf8.first", laid_unicode_utf8_first)] }
def GlyphClassesSaid : Prop := glyphClassesRow.holds Tryd.pinned (OpenSpec.ofChange glyphClassesSpec)

/-- ITS FALSE NEIGHBOUR: 'it returns false'. Refute it at one input. -/
def glyphClassesWrong : ChangeSpec := { name := "glyphClasses", fn := fun _ => fun
  | [d] => { results := [.lit (.bool false)], args := [d] }
  | _ => none }
def GlyphClassesWrongFalsely : Prop := glyphClassesRow.holds Tryd.pinned (OpenSpec.ofChange glyphClassesWrong)

/-- 'offsidelaw01.GlyphDigits': WHATEVER THE INPUT: true; the input reads as it did. -/
def glyphDigitsSpec : ChangeSpec := { name := "glyphDigits", fn := fun _ => fun
  | [d1, d2] => { results := [.lit (.bool true)], args := [d1, d2] }
  | _ => none }
def glyphDigitsRow : OpenClaim := { program := "ytimcnmmkccdcdaadoor", sum := "76a65f4de61ed7db43b842400e2148c491820f984847b575daff49a96f317be8", func := "offside/offsidelaw01.GlyphDigits", spec := "glyphDigits", named := ["unicode/utf8.first", "unicode/utf8.acceptRanges"], apart := false, laid := [("unicode/utf8.acceptRanges", laid_unicode_utf8_acceptRanges), ("unicode/utf8.first", laid_unicode_utf8_first)] }
def GlyphDigitsSaid : Prop := glyphDigitsRow.holds Tryd.pinned (OpenSpec.ofChange glyphDigitsSpec)

/-- ITS FALSE NEIGHBOUR: 'it returns false'. Refute it at one input. -/
def glyphDigitsWrong : ChangeSpec := { name := "glyphDigits", fn := fun _ => fun
  | [d1, d2] => { results := [.lit (.bool false)], args := [d1, d2] }
  | _ => none }
def GlyphDigitsWrongFalsely : Prop := glyphDigitsRow.holds Tryd.pinned (OpenSpec.ofChange glyphDigitsWrong)

/-- 'offsidelaw01.GlyphPieces': WHATEVER THE INPUT: true; the input reads as it did. -/
def glyphPiecesSpec : ChangeSpec := { name := "glyphPieces", fn := fun _ => fun
  | [d] => { results := [.lit (.bool true)], args := [d] }
  | _ => none }
def glyphPiecesRow : OpenClaim := { program := "ytimcnmmkccdcdaadoor", sum := "76a65f4de61ed7db43b842400e2148c491820f984847b575daff49a96f317be8", func := "offside/offsidelaw01.GlyphPieces", spec := "glyphPieces", named := ["unicode/utf8.first", "unicode/utf8.acceptRanges"], apart := false, laid := [("unicode/utf8.acceptRanges", laid_unicode_utf8_acceptRanges), ("unicode/utf8.first", laid_unicode_utf8_first)] }
def GlyphPiecesSaid : Prop := glyphPiecesRow.holds Tryd.pinned (OpenSpec.ofChange glyphPiecesSpec)

/-- ITS FALSE NEIGHBOUR: 'it returns false'. Refute it at one input. -/
def glyphPiecesWrong : ChangeSpec := { name := "glyphPieces", fn := fun _ => fun
  | [d] => { results := [.lit (.bool false)], args := [d] }
  | _ => none }
def GlyphPiecesWrongFalsely : Prop := glyphPiecesRow.holds Tryd.pinned (OpenSpec.ofChange glyphPiecesWrong)

/-- 'offsidelaw01.GlyphChecks': WHATEVER THE INPUT: true; the input reads as it did. -/
def glyphChecksSpec : ChangeSpec := { name := "glyphChecks", fn := fun _ => fun
  | [d] => { results := [.lit (.bool true)], args := [d] }
  | _ => none }
def glyphChecksRow : OpenClaim := { program := "ytimcnmmkccdcdaadoor", sum := "76a65f4de61ed7db43b842400e2148c491820f984847b575daff49a96f317be8", func := "offside/offsidelaw01.GlyphChecks", spec := "glyphChecks", named := ["unicode/utf8.first", "unicode/utf8.acceptRanges"], apart := false, laid := [("unicode/utf8.acceptRanges", laid_unicode_utf8_acceptRanges), ("unicode/utf8.first", laid_unicode_utf8_first)] }
def GlyphChecksSaid : Prop := glyphChecksRow.holds Tryd.pinned (OpenSpec.ofChange glyphChecksSpec)

/-- ITS FALSE NEIGHBOUR: 'it returns false'. Refute it at one input. -/
def glyphChecksWrong : ChangeSpec := { name := "glyphChecks", fn := fun _ => fun
  | [d] => { results := [.lit (.bool false)], args := [d] }
  | _ => none }
def GlyphChecksWrongFalsely : Prop := glyphChecksRow.holds Tryd.pinned (OpenSpec.ofChange glyphChecksWrong)

/-- 'offsidelaw01.GlyphJoined': WHATEVER THE INPUT: true; the input reads as it did. -/
def glyphJoinedSpec : ChangeSpec := { name := "glyphJoined", fn := fun _ => fun
  | [d1, d2] => { results := [.lit (.bool true)], args := [d1, d2] }
  | _ => none }
def glyphJoinedRow : OpenClaim := { program := "ytimcnmmkccdcdaadoor", sum := "76a65f4de61ed7db43b842400e2148c491820f984847b575daff49a96f317be8", func := "offside/offsidelaw01.GlyphJoined", spec := "glyphJoined", named := ["unicode/utf8.first", "unicode/utf8.acceptRanges"], apart := false, laid := [("unicode/utf8.acceptRanges", laid_unicode_utf8_acceptRanges), ("unicode/utf8.first", laid_unicode_utf8_first)] }
def GlyphJoinedSaid : Prop := glyphJoinedRow.holds Tryd.pinned (OpenSpec.ofChange glyphJoinedSpec)

/-- ITS FALSE NEIGHBOUR: 'it returns false'. Refute it at one input. -/
def glyphJoinedWrong : ChangeSpec := { name := "glyphJoined", fn := fun _ => fun
  | [d1, d2] => { results := [.lit (.bool false)], args := [d1, d2] }
  | _ => none }
def GlyphJoinedWrongFalsely : Prop := glyphJoinedRow.holds Tryd.pinned (OpenSpec.ofChange glyphJoinedWrong)

/- THE SECOND FORM. 'bulk': how many values and letters a reading holds, each counted each time it is reached (what is shared counts as often as it is met; a slice's spare places count too). A statement '..UptoSaid' is the law's where the arguments, and the package variables that the reading takes, are together of bulk at most 1048576: NARROWER than '..Said'. Prove '..Said' where nothing that the law and all that it calls make is longer than what came in: it says more and counts as full. Else prove '..UptoSaid'. A law counts once. -/
mutual
def uptoBulk {H : Type} : DataW H → Nat
  | .lit (.string bytes) => bytes.length + 1
  | .lit _ => 1
  | .nil => 1
  | .ptr d => uptoBulk d + 1
  | .slice elems spare => uptoBulkAll elems + uptoBulkAll spare + 1
  | .agg parts => uptoBulkAll parts + 1
  | .iface _ d => uptoBulk d + 1
  | .map entries => uptoBulkEntries entries + 1
  | .held _ => 1
def uptoBulkAll {H : Type} : List (DataW H) → Nat
  | [] => 0
  | d :: r => uptoBulk d + uptoBulkAll r
def uptoBulkEntries {H : Type} : List (Lit × DataW H) → Nat
  | [] => 0
  | x :: r => uptoBulkEntry x + uptoBulkEntries r
def uptoBulkEntry {H : Type} : Lit × DataW H → Nat
  | (.string bytes, d) => bytes.length + uptoBulk d + 1
  | (_, d) => uptoBulk d + 1
 end
def uptoSmall : (H : Type) → List (DataW H) → Bool := fun _ ds => decide (uptoBulkAll ds ≤ 1048576)
def OpenSpec.upto (s : _root_.Go.ChangeSpec) : _root_.Go.OpenSpec := { _root_.Go.OpenSpec.ofChange s with cond := some uptoSmall }

/-- 'offsidelaw01.GlyphNexts', WHERE WHAT IT READS IS OF BULK AT MOST 1048576: true; the input reads as it did. -/
def glyphNextsUptoRow : OpenClaim := { program := "ytimcnmmkccdcdaadoor", sum := "76a65f4de61ed7db43b842400e2148c491820f984847b575daff49a96f317be8", func := "offside/offsidelaw01.GlyphNexts", spec := "glyphNexts", named := ["unicode/utf8.first", "unicode/utf8.acceptRanges"], apart := false, laid := [("unicode/utf8.acceptRanges", laid_unicode_utf8_acceptRanges), ("unicode/utf8.first", laid_unicode_utf8_first)], narrowed := true }
def GlyphNextsUptoSaid : Prop := glyphNextsUptoRow.holds Tryd.pinned (OpenSpec.upto glyphNextsSpec)

/-- 'offsidelaw01.GlyphClasses', WHERE WHAT IT READS IS OF BULK AT MOST 1048576: true; the input reads as it did. -/
def glyphClassesUptoRow : OpenClaim := { program := "ytimcnmmkccdcdaadoor", sum := "76a65f4de61ed7db43b842400e2148c491820f984847b575daff49a96f317be8", func := "offside/offsidelaw01.GlyphClasses", spec := "glyphClasses", named := ["unicode/utf8.first", "unicode/utf8.acceptRanges"], apart := false, laid := [("unicode/utf8.acceptRanges", laid_unicode_utf8_acceptRanges), ("unicode/utf8.first", laid_unicode_utf8_first)], narrowed := true }
def GlyphClassesUptoSaid : Prop := glyphClassesUptoRow.holds Tryd.pinned (OpenSpec.upto glyphClassesSpec)

/-- 'offsidelaw01.GlyphDigits', WHERE WHAT IT READS IS OF BULK AT MOST 1048576: true; the input reads as it did. -/
def glyphDigitsUptoRow : OpenClaim := { program := "ytimcnmmkccdcdaadoor", sum := "76a65f4de61ed7db43b842400e2148c491820f984847b575daff49a96f317be8", func := "offside/offsidelaw01.GlyphDigits", spec := "glyphDigits", named := ["unicode/utf8.first", "unicode/utf8.acceptRanges"], apart := false, laid := [("unicode/utf8.acceptRanges", laid_unicode_utf8_acceptRanges), ("unicode/utf8.first", laid_unicode_utf8_first)], narrowed := true }
def GlyphDigitsUptoSaid : Prop := glyphDigitsUptoRow.holds Tryd.pinned (OpenSpec.upto glyphDigitsSpec)

/-- 'offsidelaw01.GlyphPieces', WHERE WHAT IT READS IS OF BULK AT MOST 1048576: true; the input reads as it did. -/
def glyphPiecesUptoRow : OpenClaim := { program := "ytimcnmmkccdcdaadoor", sum := "76a65f4de61ed7db43b842400e2148c491820f984847b575daff49a96f317be8", func := "offside/offsidelaw01.GlyphPieces", spec := "glyphPieces", named := ["unicode/utf8.first", "unicode/utf8.acceptRanges"], apart := false, laid := [("unicode/utf8.acceptRanges", laid_unicode_utf8_acceptRanges), ("unicode/utf8.first", laid_unicode_utf8_first)], narrowed := true }
def GlyphPiecesUptoSaid : Prop := glyphPiecesUptoRow.holds Tryd.pinned (OpenSpec.upto glyphPiecesSpec)

/-- 'offsidelaw01.GlyphChecks', WHERE WHAT IT READS IS OF BULK AT MOST 1048576: true; the input reads as it did. -/
def glyphChecksUptoRow : OpenClaim := { program := "ytimcnmmkccdcdaadoor", sum := "76a65f4de61ed7db43b842400e2148c491820f984847b575daff49a96f317be8", func := "offside/offsidelaw01.GlyphChecks", spec := "glyphChecks", named := ["unicode/utf8.first", "unicode/utf8.acceptRanges"], apart := false, laid := [("unicode/utf8.acceptRanges", laid_unicode_utf8_acceptRanges), ("unicode/utf8.first", laid_unicode_utf8_first)], narrowed := true }
def GlyphChecksUptoSaid : Prop := glyphChecksUptoRow.holds Tryd.pinned (OpenSpec.upto glyphChecksSpec)

/-- 'offsidelaw01.GlyphJoined', WHERE WHAT IT READS IS OF BULK AT MOST 1048576: true; the input reads as it did. -/
def glyphJoinedUptoRow : OpenClaim := { program := "ytimcnmmkccdcdaadoor", sum := "76a65f4de61ed7db43b842400e2148c491820f984847b575daff49a96f317be8", func := "offside/offsidelaw01.GlyphJoined", spec := "glyphJoined", named := ["unicode/utf8.first", "unicode/utf8.acceptRanges"], apart := false, laid := [("unicode/utf8.acceptRanges", laid_unicode_utf8_acceptRanges), ("unicode/utf8.first", laid_unicode_utf8_first)], narrowed := true }
def GlyphJoinedUptoSaid : Prop := glyphJoinedUptoRow.holds Tryd.pinned (OpenSpec.upto glyphJoinedSpec)

end Rows
end Go.Proofs.YtimcnmmkccdcdaaDoor
