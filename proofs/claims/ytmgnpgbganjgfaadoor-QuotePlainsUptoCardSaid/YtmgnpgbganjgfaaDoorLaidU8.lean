/- DERIVED. What the listed variables give: the two tables of unicode/utf8. -/
import Derived.Test.YtmgnpgbganjgfaaDoorCards
import Derived.Test.YtmgnpgbganjgfaaDoorNext
import Derived.Lib.LaidU8
import Derived.ProofKit
import Derived.OpenShut
import Derived.ShutString
import Derived.SizedLaws
import Derived.Deep.DeepHandedRow
import Derived.Lay
import Derived.LaidMore
set_option linter.unusedSimpArgs false
set_option linter.unusedVariables false
namespace Go.Proofs.YtmgnpgbganjgfaaDoor
open Go.RowKit Go.Shelf Go.Lib

theorem first_eq : Go.Pinned.utf8First = Lib.firstData := by kernel_rfl
theorem accept_eq : (Rows.laid_unicode_utf8_acceptRanges : DataW Unit) = Lib.acceptData := by kernel_rfl
theorem u8extra : U8Extra Tryd.prog Tryd.lays260_ren := ⟨by kernel_rfl, by kernel_rfl, by kernel_rfl, by kernel_rfl, by kernel_rfl, by kernel_rfl, by kernel_rfl⟩
/-- A list of variables that holds both tables. -/
theorem tabs_of {l : List (String × DataW Unit)} {W : World} (hp : laidMet Tryd.prog l W) (h1 : ("unicode/utf8.first", Go.Pinned.utf8First) ∈ l) (h2 : ("unicode/utf8.acceptRanges", (Rows.laid_unicode_utf8_acceptRanges : DataW Unit)) ∈ l) : Tabs W :=
  utf8Tabs_of_reads { Tryd.lays260 with } u8extra (first_eq ▸ Lib.laidMet.reads hp h1) (accept_eq ▸ Lib.laidMet.reads hp h2)
end Go.Proofs.YtmgnpgbganjgfaaDoor
