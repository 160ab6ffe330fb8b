/- DERIVED. PLAIN: layer 2: how many lines a text has, and how long they are. -/
import Derived.Test.YthhlnahehpigeaaDoorPlaceH
import Derived.Test.YthhlnahehpigeaaDoorPlaceQ
set_option linter.unusedSimpArgs false
set_option linter.unusedVariables false
namespace Go.Proofs.YthhlnahehpigeaaDoor

theorem linesL_pos (n : Nat) : ∀ (l cur : List UInt8), l.length ≤ n → 0 < (linesL cur l).length ∧ (linesL cur l).length ≤ l.length + 1 := by
  induction n with
  | zero =>
    intro l cur h
    obtain rfl := List.eq_nil_of_length_eq_zero (show l.length = 0 by omega)
    rw [linesL_nil]; simp
  | succ n ih =>
    intro l cur h
    by_cases h0 : l = []
    · subst h0; rw [linesL_nil]; simp
    · have hl := List.length_pos_iff.2 h0
      by_cases hn : 0 < nl l
      · rw [linesL_nl _ _ h0 hn]
        have := ih (l.drop (nl l)) [] (by rw [List.length_drop]; omega)
        rw [List.length_drop] at this
        simp only [List.length_cons]; omega
      · rw [linesL_on _ _ h0 hn]
        have := ih (l.drop 1) (cur ++ [l.getD 0 0]) (by rw [List.length_drop]; omega)
        rw [List.length_drop] at this
        omega
theorem linesL_le (n : Nat) : ∀ (l cur : List UInt8), l.length ≤ n → ∀ x ∈ linesL cur l, x.length ≤ cur.length + l.length := by
  induction n with
  | zero =>
    intro l cur h
    obtain rfl := List.eq_nil_of_length_eq_zero (show l.length = 0 by omega)
    rw [linesL_nil]; simp
  | succ n ih =>
    intro l cur h x hx
    by_cases h0 : l = []
    · subst h0; rw [linesL_nil] at hx; simp at hx; subst hx; simp
    · have hl := List.length_pos_iff.2 h0
      by_cases hn : 0 < nl l
      · rw [linesL_nl _ _ h0 hn] at hx
        simp only [List.mem_cons] at hx
        rcases hx with rfl | hx
        · omega
        · have := ih (l.drop (nl l)) [] (by rw [List.length_drop]; omega) x hx
          rw [List.length_drop] at this
          simp at this; omega
      · rw [linesL_on _ _ h0 hn] at hx
        have := ih (l.drop 1) (cur ++ [l.getD 0 0]) (by rw [List.length_drop]; omega) x hx
        rw [List.length_drop] at this
        simp at this; omega
end Go.Proofs.YthhlnahehpigeaaDoor
