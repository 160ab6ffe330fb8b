/- DERIVED. A slice of numbers that came in as a parameter, opened. -/
import Derived.Test.YtmgnpgbganjgfaaDoorQuoV
import Derived.Test.YtmgnpgbganjgfaaDoorFrame
import Derived.ChangeSlices
set_option linter.unusedSimpArgs false
set_option linter.unusedVariables false
namespace Go.Proofs.YtmgnpgbganjgfaaDoor
open Go.RowKit Go.ChangeShapes Go.WideShapes
set_option maxRecDepth 20000

theorem bulk_lits {H : Type} (k : IntKind) (zs : List Int) : Rows.uptoBulkAll (ChangeShapes.lits (H := H) k zs) = zs.length := by
  induction zs with
  | nil => rfl
  | cons z zs ih =>
    show Rows.uptoBulk _ + Rows.uptoBulkAll (ChangeShapes.lits (H := H) k zs) = zs.length + 1
    rw [ih, Nat.add_comm]
    rfl
section
variable {H : Type} {enc : TypeId × Value → H} {W : World}
theorem open_intsV {r : Reach} {b0 : Nat} {v : Value} {d : DataW H} {p : List MemPlace} (hv : Value.okWide Tryd.prog W r b0 27 v) (h : DataW.Trod enc Tryd.prog W 0 (fun _ => true) true 27 v d p) :
    ∃ L : List Int, IntsAt W v L ∧ L.length ≤ Rows.uptoBulk d := by
  obtain ⟨a, len, cap, rfl⟩ := okWide_slice Tryd.underlying27 hv
  obtain ⟨fuel, hf⟩ := h
  have hf : DataW.trod enc Tryd.prog W 0 (fun _ => true) true fuel 27 [Value.slice a len cap] = some (d, p) := by simpa [Value.cells] using hf
  rcases ChangeShapes.open_ints Tryd.underlying27 Tryd.underlying3 (by kernel_rfl) hf with ⟨hc, _⟩ | ⟨a, len, cap, zs, hc, _, hlc, hcm, hlen, hx, hcell, _⟩
  · simp only [List.cons.injEq, and_true, Value.slice.injEq] at hc
    obtain ⟨rfl, rfl, rfl⟩ := hc
    exact ⟨[], ⟨none, 0, rfl, fun h => by simp at h⟩, by simp⟩
  · simp only [List.cons.injEq, and_true, Value.slice.injEq] at hc
    obtain ⟨rfl, rfl, rfl⟩ := hc
    simp only [if_true] at hlen
    have hl : (zs.take len).length = len := by simp; omega
    have hsp : 0 < len → a.spot = none := fun h0 => by
      have h := World.cell?_spot (hcell 0 (by omega))
      simpa [Addr.add] using h
    obtain ⟨b, o, spot⟩ := a
    refine ⟨zs.take len, ⟨_, cap, by rw [hl], fun h0 => ?_⟩, ?_⟩
    · rw [hl] at h0
      have hs := hsp h0
      simp only at hs
      subst hs
      have ha : ∀ i, (⟨b, o, none⟩ : Addr).add i = ⟨b, o + i, none⟩ := fun i => by unfold Addr.add; split <;> simp_all
      have hcell2 : ∀ i u, (zs.take len)[i]? = some u → W.cell? ⟨b, o + i, none⟩ = some (.int .i64 u) := fun i u hu => by
        have hi := (List.getElem?_eq_some_iff.1 hu).1
        rw [hl] at hi
        have h1 := hcell i (by omega)
        rw [ha] at h1
        rw [h1]
        have h2 := (List.getElem?_eq_some_iff.1 hu).2
        rw [List.getElem_take] at h2
        rw [List.getD_eq_getElem?_getD, List.getElem?_eq_getElem (by omega)]
        simp only [Option.getD_some]
        rw [h2]
      refine ⟨b, o, rfl, ?_, by rw [hl]; exact hlc, hcell2⟩
      have h1 := hcell 0 (by omega)
      rw [ha] at h1
      apply Classical.byContradiction
      intro hn
      unfold World.cell? at h1
      rw [Array.getElem?_eq_none (by simpa using hn)] at h1
      simp at h1
    · simp only [Prod.mk.injEq] at hx
      rw [hx.1]
      simp only [Rows.uptoBulk, bulk_lits]
      omega
end
end Go.Proofs.YtmgnpgbganjgfaaDoor
