/- DERIVED. What layer 5's listed variables give. -/
import Derived.Test.YtmgnpgbganjgfaaDoorLaidU8
import Derived.Test.YtmgnpgbganjgfaaDoorQuoteD
import Derived.Test.YtmgnpgbganjgfaaDoorFrame
import Derived.Deep.DeepWitnessRowRef
set_option linter.unusedSimpArgs false
set_option linter.unusedVariables false
namespace Go.Proofs.YtmgnpgbganjgfaaDoor
open Go.RowKit Go.Shelf Go.Lib

theorem ascii_eq : (Rows.laid_strings_asciiSpace : DataW Unit) = Lib.tabData .u8 Lib.asciiSpaceTab := by kernel_rfl
theorem pow_eq : (Rows.laid_internal_strconv_uint64pow10 : DataW Unit) = Lib.tabData .u64 Lib.pow10Tab := by kernel_rfl
theorem tabIs_of_reads {W : World} {k : IntKind} {zs : List Int} {name : String} {g : Nat} {t e : TypeId} {n : Nat}
    (hg : Tryd.prog.globalNamed name = some g) (hty : (Tryd.prog.globals[g]?).map (·.type) = some t) (ht : Tryd.prog.underlying t = some (.array n e)) (he : Tryd.prog.underlying e = some (.int k)) (hce : Tryd.prog.cellsOf e = 1) (hct : Tryd.prog.cellsOf t = n)
    (h : VarReads Tryd.prog W name (tabData k zs)) : TabIs Tryd.prog W name k zs := by
  obtain ⟨g', t', cs, fuel, p, hg', hty', hv, hd⟩ := h
  rw [hg] at hg'
  obtain rfl := Option.some.inj hg'
  rw [hty] at hty'
  obtain rfl := Option.some.inj hty'
  unfold TabIs
  rw [hv, ← cells_of_tab ht he hce hct hd]
theorem tabs5_of {l : List (String × DataW Unit)} {W : World} (hp : laidMet Tryd.prog l W) (h1 : ("unicode/utf8.first", Go.Pinned.utf8First) ∈ l) (h2 : ("unicode/utf8.acceptRanges", (Rows.laid_unicode_utf8_acceptRanges : DataW Unit)) ∈ l) (h3 : ("strings.asciiSpace", (Rows.laid_strings_asciiSpace : DataW Unit)) ∈ l) (h4 : ("internal/strconv.uint64pow10", (Rows.laid_internal_strconv_uint64pow10 : DataW Unit)) ∈ l) : Tabs5 W :=
  ⟨tabs_of hp h1 h2, tabIs_of_reads (name := "strings.asciiSpace") (g := 1) (t := 109) (n := 256) (e := 5) (by kernel_rfl) (by kernel_rfl) Tryd.underlying109 Tryd.underlying5 (by kernel_rfl) (by kernel_rfl) (ascii_eq ▸ Lib.laidMet.reads hp h3),
    tabIs_of_reads (name := "internal/strconv.uint64pow10") (g := 0) (t := 96) (n := 20) (e := 85) (by kernel_rfl) (by kernel_rfl) Tryd.underlying96 Tryd.underlying85 (by kernel_rfl) (by kernel_rfl) (pow_eq ▸ Lib.laidMet.reads hp h4)⟩
end Go.Proofs.YtmgnpgbganjgfaaDoor
