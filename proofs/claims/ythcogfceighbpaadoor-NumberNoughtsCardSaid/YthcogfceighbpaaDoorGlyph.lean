/- DERIVED. The walks of layer 1: glyph's and its reference's functions. -/
import Derived.Test.YthcogfceighbpaaDoorCls
import Derived.Test.YthcogfceighbpaaDoorBase
set_option linter.unusedSimpArgs false
set_option linter.unusedVariables false
namespace Go.Proofs.YthcogfceighbpaaDoor
open Go.RowKit


set_option maxHeartbeats 400000 in
theorem in_any (c l h : Int) (w : World) :
    Calls Tryd.prog 43 #[.int .i64 c, .int .i64 l, .int .i64 h] w fun e w' => e = .returned (.bool (decide (l ≤ c) && decide (c ≤ h))) ∧ w = w' := by
  by_cases h1 : l ≤ c <;> by_cases h2 : c ≤ h
  all_goals
    go_enter Tryd.func43, Tryd.ntmps43
    go_wp2
    go_ret
    exact ⟨by simp [h1, h2], rfl⟩


/-- 'in', both ways. -/
def InOr (c l h : Int) (w : World) (e : Ending) (w' : World) : Prop :=
  (e = .returned (.bool true) ∧ (l ≤ c ∧ c ≤ h) ∧ w = w') ∨ (e = .returned (.bool false) ∧ Hid (¬ (l ≤ c ∧ c ≤ h)) ∧ w = w')
theorem in_or (c l h : Int) (w : World) :
    Calls Tryd.prog 43 #[.int .i64 c, .int .i64 l, .int .i64 h] w (InOr c l h w) :=
  (in_any c l h w).mono fun e w' ⟨he, hw⟩ => by
    by_cases hh : l ≤ c ∧ c ≤ h
    · exact .inl ⟨by rw [he]; simp [hh.1, hh.2], hh, hw⟩
    · refine .inr ⟨?_, hh, hw⟩
      rw [he]
      have : (decide (l ≤ c) && decide (c ≤ h)) = false := by simpa using hh
      rw [this]

end Go.Proofs.YthcogfceighbpaaDoor
