/- DERIVED. A slice of trees that came in as a parameter, opened. -/
import Derived.Test.YtjdpbfjfcbjlfaaDoorTreeOpen
set_option linter.unusedSimpArgs false
set_option linter.unusedVariables false
namespace Go.Proofs.YtjdpbfjfcbjlfaaDoor
open Go.RowKit Go.ChangeShapes Go.WideShapes

section
variable {H : Type} {enc : TypeId × Value → H} {W : World}
theorem open_kids {n : Nat} {kv : Value} {y : DataW H × List MemPlace} (kd fm : Int) (tx : ByteArray) (ln cl : Int) (hk : DataW.trod enc Tryd.prog W 0 (fun _ => true) true n 22 [kv] = some y) :
    ∃ ks : List Tr, Lies W (.mk kd fm tx ln cl ks) kv ∧ blks ks ≤ Rows.uptoBulk y.1 := by
  rcases DataW.trod_slice Tryd.underlying22 hk with ⟨hc, hy⟩ | ⟨a, len, cap, elems, rest, q, rfl, hc, hy, _, hlc, hcm, hlen, hel, _, _⟩
  · simp only [List.cons.injEq, and_true] at hc
    subst hc
    exact ⟨[], Lies.leaf .., by simp [blks]⟩
  · simp only [List.cons.injEq, and_true] at hc
    subst hc
    have hone : ∀ i, i < len → ∃ t kv, (Cells6 W a.block (a.off + i * 6) t kv ∧ (i = 0 → a.spot = none)) ∧ Lies W t kv ∧ ∀ h2 : i < elems.length, t.blk ≤ Rows.uptoBulk elems[i].1 := fun i hi => by
      have h1 := hel i hi
      rw [cellsN, List.getElem?_eq_getElem (by omega)] at h1
      cases hcs : W.cells? 0 (a.add (i * 6)) 6 with
      | none => rw [hcs] at h1; simp at h1
      | some cs' =>
        rw [hcs] at h1
        simp only [Option.bind_some] at h1
        obtain ⟨t, kv, rfl, hl, hb⟩ := open_node q cs' _ h1
        obtain ⟨_, _, hcell⟩ := World.cells?_some hcs
        obtain ⟨b, o, spot⟩ := a
        have g := fun j (hj : j < 6) => hcell j hj
        have hsp : i = 0 → spot = none := fun h0 => by
          subst h0
          have h := World.cell?_spot (hcell 0 (by omega))
          simpa [Addr.add] using h
        refine ⟨t, kv, ⟨?_, hsp⟩, hl, fun _ => hb⟩
        have g0 := g 0 (by omega); have g1 := g 1 (by omega); have g2 := g 2 (by omega); have g3 := g 3 (by omega); have g4 := g 4 (by omega); have g5 := g 5 (by omega)
        have hb2 : ∀ k o, (⟨b, o, none⟩ : Addr).add k = ⟨b, o + k, none⟩ := by intro k o; unfold Addr.add; split <;> simp_all
        have ha : (⟨b, o, spot⟩ : Addr).add (i * 6) = ⟨b, o + i * 6, none⟩ := by
          by_cases h0 : i = 0
          · rw [hsp h0, hb2]
          · unfold Addr.add; rw [if_neg (by omega)]
        rw [ha] at g0 g1 g2 g3 g4 g5
        simp only [hb2] at g0 g1 g2 g3 g4 g5
        exact ⟨g0, g1, g2, g3, g4, g5⟩
    obtain ⟨ks, K, hkl, hq⟩ := choose_list _ len hone
    subst hkl
    refine ⟨ks, ?_, ?_⟩
    · refine Lies.mk kd fm tx ln cl ks (some a) cap a.block a.off K (by unfold maxLen at hcm; omega) (fun h => ?_) (fun i h => (hq i h).1.1) (fun i h => (hq i h).2.1)
      have := (hq 0 h).1.2 rfl
      obtain ⟨b, o, spot⟩ := a
      simp only at this
      rw [this]
    · have hb := blks_bulk ks elems hlen.symm (fun i h h2 => (hq i h).2.2 h2)
      rw [hy]
      simp only [Rows.uptoBulk]
      omega
/-- A slice of trees that came in as a parameter. -/
theorem open_trees {r : Reach} {b0 : Nat} {v : Value} {d : DataW H} {p : List MemPlace} (kd : Int) (hv : Value.okWide Tryd.prog W r b0 22 v) (h : DataW.Trod enc Tryd.prog W 0 (fun _ => true) true 22 v d p) :
    ∃ ks : List Tr, Lies W (.mk kd 0 ⟨#[]⟩ 0 0 ks) v ∧ blks ks ≤ Rows.uptoBulk d := by
  obtain ⟨a, len, cap, rfl⟩ := okWide_slice Tryd.underlying22 hv
  obtain ⟨fuel, hf⟩ := h
  exact open_kids kd 0 ⟨#[]⟩ 0 0 (by simpa [Value.cells] using hf)
end
theorem sizes_le_blks (ks : List Tr) : sizes ks ≤ blks ks := by
  induction ks with
  | nil => simp [sizes]
  | cons k r ih =>
    rw [sizes, blks]
    have := size_le_blk _ k (Nat.le_refl _)
    omega
end Go.Proofs.YtjdpbfjfcbjlfaaDoor
