/- DERIVED. What layer 4's listed variables give. -/
import Derived.Test.YthcogfceighbpaaDoorNumX
import Derived.Test.YthcogfceighbpaaDoorFrame
import Derived.Lib.LaidU8
set_option linter.unusedSimpArgs false
set_option linter.unusedVariables false
namespace Go.Proofs.YthcogfceighbpaaDoor
open Go.RowKit Go.Shelf Go.Lib

theorem pow_eq : (Rows.laid_internal_strconv_uint64pow10 : DataW Unit) = Lib.tabData .u64 Lib.pow10Tab := by kernel_rfl
theorem tabIs_of_reads {W : World} {k : IntKind} {zs : List Int} {name : String} {g : Nat} {t e : TypeId} {n : Nat}
    (hg : Tryd.prog.globalNamed name = some g) (hty : (Tryd.prog.globals[g]?).map (·.type) = some t) (ht : Tryd.prog.underlying t = some (.array n e)) (he : Tryd.prog.underlying e = some (.int k)) (hce : Tryd.prog.cellsOf e = 1) (hct : Tryd.prog.cellsOf t = n)
    (h : VarReads Tryd.prog W name (tabData k zs)) : TabIs Tryd.prog W name k zs := by
  obtain ⟨g', t', cs, fuel, p, hg', hty', hv, hd⟩ := h
  rw [hg] at hg'
  obtain rfl := Option.some.inj hg'
  rw [hty] at hty'
  obtain rfl := Option.some.inj hty'
  unfold TabIs
  rw [hv, ← cells_of_tab ht he hce hct hd]
theorem pow_of {l : List (String × DataW Unit)} {W : World} (hp : laidMet Tryd.prog l W) (h1 : ("internal/strconv.uint64pow10", (Rows.laid_internal_strconv_uint64pow10 : DataW Unit)) ∈ l) : Pow W :=
  tabIs_of_reads (name := "internal/strconv.uint64pow10") (g := 1) (t := 108) (n := 20) (e := 91) (by kernel_rfl) (by kernel_rfl) Tryd.underlying108 Tryd.underlying91 (by kernel_rfl) (by kernel_rfl) (pow_eq ▸ Lib.laidMet.reads hp h1)
end Go.Proofs.YthcogfceighbpaaDoor
