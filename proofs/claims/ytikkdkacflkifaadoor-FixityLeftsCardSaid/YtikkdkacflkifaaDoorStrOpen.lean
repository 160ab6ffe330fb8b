/- DERIVED. A slice of texts that came in as a parameter, opened. -/
import Derived.Test.YtikkdkacflkifaaDoorLawFLeftsA
import Derived.Test.YtikkdkacflkifaaDoorFixOpen
import Derived.SliceStrings
set_option linter.unusedSimpArgs false
set_option linter.unusedVariables false
namespace Go.Proofs.YtikkdkacflkifaaDoor
open Go.RowKit Go.ChangeShapes Go.WideShapes
set_option maxRecDepth 20000

section
variable {H : Type} {enc : TypeId × Value → H} {W : World}
theorem open_names {r : Reach} {b0 : Nat} {v : Value} {d : DataW H} {p : List MemPlace} (hv : Value.okWide Tryd.prog W r b0 43 v) (h : DataW.Trod enc Tryd.prog W 0 (fun _ => true) true 43 v d p) :
    ∃ (names : List ByteArray) (xa : Option Addr) (cap b o : Nat), v = .slice xa names.length cap ∧ (0 < names.length → xa = some ⟨b, o, none⟩) ∧ NamesAt W b o names := by
  obtain ⟨a, len, cap, rfl⟩ := okWide_slice Tryd.underlying43 hv
  obtain ⟨fuel, hf⟩ := h
  have hf : DataW.trod enc Tryd.prog W 0 (fun _ => true) true fuel 43 [Value.slice a len cap] = some (d, p) := by simpa [Value.cells] using hf
  rcases open_strings Tryd.underlying43 Tryd.underlying9 cellsSx hf with ⟨hc, _⟩ | ⟨a, len, cap, ss, hc, _, hlc, hcm, hlen, _, hcell, _⟩
  · simp only [List.cons.injEq, and_true, Value.slice.injEq] at hc
    obtain ⟨rfl, rfl, rfl⟩ := hc
    exact ⟨[], none, 0, 0, 0, rfl, fun h => by simp at h, by simp, fun i h => by simp at h⟩
  · simp only [List.cons.injEq, and_true, Value.slice.injEq] at hc
    obtain ⟨rfl, rfl, rfl⟩ := hc
    simp only [if_true] at hlen
    have hl : (ss.take len).length = len := by simp; omega
    have hsp : 0 < len → a.spot = none := fun h0 => by
      have h := World.cell?_spot (hcell 0 (by omega))
      simpa [Addr.add] using h
    obtain ⟨b, o, spot⟩ := a
    refine ⟨ss.take len, some ⟨b, o, spot⟩, cap, b, o, by rw [hl], fun h => ?_, by rw [hl]; unfold maxLen at hcm; omega, fun i hi => ?_⟩
    · rw [hl] at h
      have := hsp h
      simp only at this
      rw [this]
    · rw [hl] at hi
      have h1 := hcell i (by omega)
      have hs := hsp (by omega)
      simp only at hs
      subst hs
      have ha : (⟨b, o, none⟩ : Addr).add i = ⟨b, o + i, none⟩ := by unfold Addr.add; split <;> simp_all
      rw [ha] at h1
      rw [h1, List.getElem_take, List.getD_eq_getElem?_getD, List.getElem?_eq_getElem (by omega)]
      rfl
end
end Go.Proofs.YtikkdkacflkifaaDoor
