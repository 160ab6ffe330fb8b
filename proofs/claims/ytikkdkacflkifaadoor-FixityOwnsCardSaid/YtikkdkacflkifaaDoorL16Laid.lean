/- DERIVED. What layer 16's listed variables give. -/
import Derived.Test.YtikkdkacflkifaaDoorLaidU8
import Derived.Test.YtikkdkacflkifaaDoorFixA
import Derived.Test.YtikkdkacflkifaaDoorFrame
import Derived.Deep.DeepWitnessRowRef
set_option linter.unusedSimpArgs false
set_option linter.unusedVariables false
namespace Go.Proofs.YtikkdkacflkifaaDoor
open Go.RowKit Go.Shelf Go.Lib

theorem ascii_eq : (Rows.laid_strings_asciiSpace : DataW Unit) = Lib.tabData .u8 Lib.asciiSpaceTab := by kernel_rfl
theorem tabIs_of_reads {W : World} {k : IntKind} {zs : List Int} {name : String} {g : Nat} {t e : TypeId} {n : Nat}
    (hg : Tryd.prog.globalNamed name = some g) (hty : (Tryd.prog.globals[g]?).map (·.type) = some t) (ht : Tryd.prog.underlying t = some (.array n e)) (he : Tryd.prog.underlying e = some (.int k)) (hce : Tryd.prog.cellsOf e = 1) (hct : Tryd.prog.cellsOf t = n)
    (h : VarReads Tryd.prog W name (tabData k zs)) : TabIs Tryd.prog W name k zs := by
  obtain ⟨g', t', cs, fuel, p, hg', hty', hv, hd⟩ := h
  rw [hg] at hg'
  obtain rfl := Option.some.inj hg'
  rw [hty] at hty'
  obtain rfl := Option.some.inj hty'
  unfold TabIs
  rw [hv, ← cells_of_tab ht he hce hct hd]
theorem tabs16_of {l : List (String × DataW Unit)} {W : World} (hp : laidMet Tryd.prog l W) (h1 : ("unicode/utf8.first", Go.Pinned.utf8First) ∈ l) (h2 : ("unicode/utf8.acceptRanges", (Rows.laid_unicode_utf8_acceptRanges : DataW Unit)) ∈ l) (h3 : ("strings.asciiSpace", (Rows.laid_strings_asciiSpace : DataW Unit)) ∈ l) : Tabs16 W :=
  ⟨tabs_of hp h1 h2, tabIs_of_reads (name := "strings.asciiSpace") (g := 0) (t := 79) (n := 256) (e := 5) (by kernel_rfl) (by kernel_rfl) Tryd.underlying79 Tryd.underlying5 (by kernel_rfl) (by kernel_rfl) (ascii_eq ▸ Lib.laidMet.reads hp h3)⟩
end Go.Proofs.YtikkdkacflkifaaDoor
