/- DERIVED. PLAIN: how long a text is whose gaps are narrow. -/
import Derived.Test.YtmgnpgbganjgfaaDoorQuoteS
import Derived.Test.YtmgnpgbganjgfaaDoorQuoA
set_option linter.unusedSimpArgs false
set_option linter.unusedVariables false
namespace Go.Proofs.YtmgnpgbganjgfaaDoor

theorem plT_len (n : Nat) : ∀ (l : List UInt8) (i : Nat), l.length - i ≤ n → (plT l i).length ≤ 3 * (l.length - i) := by
  induction n with
  | zero => intro l i h; rw [plT, dif_neg (by omega)]; simp
  | succ n ih =>
    intro l i h
    rw [plT]
    split
    · next hi =>
      split
      · simp; omega
      · split
        · simp
        · next c m ho =>
          have bd := oneP_bd _ _ _ _ ho
          rw [List.length_drop] at bd
          have := ih l (i + (m - 1) + 1) (by omega)
          have h2 : (if isGap (l.drop i) = true then [92, 32, 92] else (l.drop i).take m).length ≤ 3 * m := by
            split
            · simp; omega
            · rw [List.length_take]; omega
          rw [List.length_append]
          omega
    · simp
theorem plainP_len (l : List UInt8) (h : wholeE l = 0) : (plainP l).length ≤ 3 * l.length + 1 := by
  rcases whole_cases l h with ⟨h0, hr, he, ht⟩ | ⟨h0, hr, he, ht⟩
  · rw [plainP_text l h0 hr he ht]
    have := plT_len _ l 1 (Nat.le_refl _)
    simp only [List.length_cons]
    omega
  · rw [plainP_char l hr he]; omega
end Go.Proofs.YtmgnpgbganjgfaaDoor
