/- DERIVED. PLAIN: layer 2: places rise. -/
import Derived.Test.YthhlnahehpigeaaDoorPlace
set_option linter.unusedSimpArgs false
set_option linter.unusedVariables false
namespace Go.Proofs.YthhlnahehpigeaaDoor

/-- One place is not behind another. -/
def NotBehind (a b : Int × Int) : Prop := a.1 < b.1 ∨ (a.1 = b.1 ∧ a.2 ≤ b.2)
theorem NotBehind.trans {a b c : Int × Int} (h : NotBehind a b) (k : NotBehind b c) : NotBehind a c := by
  unfold NotBehind at *; omega

theorem step_rises (l : List UInt8) (line col : Int) : NotBehind (line, col) (lineS l line, colS l col) := by
  have := stopC_bd col
  unfold NotBehind lineS colS
  simp only
  split
  · omega
  · split <;> omega

theorem ofL_ge (n : Nat) : ∀ (l : List UInt8) (line col : Int), 1 ≤ col → NotBehind (line, col) (ofL l n line col) := by
  induction n using Nat.strongRecOn with
  | _ n ih =>
    intro l line col hc
    by_cases h : 0 < n ∧ 0 < unit l ∧ unit l ≤ n
    · rw [ofL, dif_pos h]
      exact (step_rises l line col).trans (ih (n - unit l) (by omega) _ _ _ (colS_bd l col hc).1)
    · rw [ofL, dif_neg h]
      exact .inr ⟨rfl, Int.le_refl _⟩

theorem ofL_rises (i : Nat) : ∀ (j : Nat) (l : List UInt8) (line col : Int), 1 ≤ col → i ≤ j → NotBehind (ofL l i line col) (ofL l j line col) := by
  induction i using Nat.strongRecOn with
  | _ i ih =>
    intro j l line col hc hij
    by_cases h : 0 < i ∧ 0 < unit l ∧ unit l ≤ i
    · rw [ofL.eq_1 l i, dif_pos h, ofL.eq_1 l j, dif_pos ⟨by omega, h.2.1, by omega⟩]
      exact ih (i - unit l) (by omega) _ _ _ _ (colS_bd l col hc).1 (by omega)
    · rw [ofL.eq_1 l i, dif_neg h]
      exact ofL_ge j l line col hc
end Go.Proofs.YthhlnahehpigeaaDoor
