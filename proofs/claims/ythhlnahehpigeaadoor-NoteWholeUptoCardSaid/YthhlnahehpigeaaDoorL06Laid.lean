/- DERIVED. What the world's shape gives: the library's variable holds some number. -/
import Derived.Test.YthhlnahehpigeaaDoorL06Awake
import Derived.Test.YthhlnahehpigeaaDoorRefNoteF
import Derived.Test.YthhlnahehpigeaaDoorNoteW
import Derived.Test.YthhlnahehpigeaaDoorFrame
import Derived.Shelf.Vars
set_option linter.unusedSimpArgs false
set_option linter.unusedVariables false
namespace Go.Proofs.YthhlnahehpigeaaDoor
open Go.RowKit

theorem len0_of {w : World} (h : w.ShapedOpen Tryd.prog) : Len0 w :=
  cell_of_shapedOpen_int (P := Tryd.prog) (g := 0) (t := 3) (zero := #[.int .i64 0]) h (of_decide_eq_true (by kernel_rfl)) (by kernel_rfl) rfl (by kernel_rfl) (by kernel_rfl) Tryd.underlying3
end Go.Proofs.YthhlnahehpigeaaDoor
