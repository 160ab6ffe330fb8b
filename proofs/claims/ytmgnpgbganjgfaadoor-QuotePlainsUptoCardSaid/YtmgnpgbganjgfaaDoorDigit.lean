/- DERIVED. The walks of Digit: glyph's and the reference's. -/
import Derived.Test.YtmgnpgbganjgfaaDoorBase
import Derived.Test.YtmgnpgbganjgfaaDoorGlyph
set_option linter.unusedSimpArgs false
set_option linter.unusedVariables false
namespace Go.Proofs.YtmgnpgbganjgfaaDoor
open Go.RowKit

/-- What a digit is worth by itself; -1: it is none. -/
def digV (c : Int) : Int := if 48 ≤ c ∧ c ≤ 57 then c - 48 else if 97 ≤ c ∧ c ≤ 102 then c - 87 else if 65 ≤ c ∧ c ≤ 70 then c - 55 else -1
/-- Digit. -/
def dig (c base : Int) : Int := if base < 2 ∨ base > 16 ∨ digV c ≥ base then -1 else digV c

theorem dig_no (c base : Int) (h : base < 2 ∨ base > 16 ∨ digV c ≥ base) : dig c base = -1 := by unfold dig; rw [if_pos h]
theorem dig_yes (c base : Int) (h1 : 2 ≤ base) (h2 : base ≤ 16) (h3 : digV c < base) : dig c base = digV c := by unfold dig; rw [if_neg (by omega)]
theorem digV0 {c : Int} (h : 48 ≤ c ∧ c ≤ 57) : digV c = c - 48 := by unfold digV; rw [if_pos h]
theorem digV1 {c : Int} (h : 97 ≤ c ∧ c ≤ 102) : digV c = c - 87 := by unfold digV; rw [if_neg (by omega), if_pos h]
theorem digV2 {c : Int} (h : 65 ≤ c ∧ c ≤ 70) : digV c = c - 55 := by unfold digV; rw [if_neg (by omega), if_neg (by omega), if_pos h]
theorem digV3 {c : Int} (h : ¬ (48 ≤ c ∧ c ≤ 57) ∧ ¬ (97 ≤ c ∧ c ≤ 102) ∧ ¬ (65 ≤ c ∧ c ≤ 70)) : digV c = -1 := by unfold digV; rw [if_neg h.1, if_neg h.2.1, if_neg h.2.2]

theorem dig_is (c base v : Int) (h : ((base < 2 ∨ base > 16) ∧ v = -1) ∨ ((2 ≤ base ∧ base ≤ 16) ∧ (((48 ≤ c ∧ c ≤ 57) ∧ ((c - 48 ≥ base ∧ v = -1) ∨ (c - 48 < base ∧ v = c - 48))) ∨ ((97 ≤ c ∧ c ≤ 102) ∧ ((c - 87 ≥ base ∧ v = -1) ∨ (c - 87 < base ∧ v = c - 87))) ∨ ((65 ≤ c ∧ c ≤ 70) ∧ ((c - 55 ≥ base ∧ v = -1) ∨ (c - 55 < base ∧ v = c - 55))) ∨ ((¬ (48 ≤ c ∧ c ≤ 57) ∧ ¬ (97 ≤ c ∧ c ≤ 102) ∧ ¬ (65 ≤ c ∧ c ≤ 70)) ∧ v = -1)))) : v = dig c base := by
  rcases h with ⟨h, rfl⟩ | ⟨hb, h⟩
  · rw [dig_no _ _ (by omega)]
  rcases h with ⟨h, h'⟩ | ⟨h, h'⟩ | ⟨h, h'⟩ | ⟨h, h'⟩
  · have e := digV0 h
    rcases h' with ⟨h', rfl⟩ | ⟨h', rfl⟩
    · rw [dig_no _ _ (by omega)]
    · rw [dig_yes _ _ (by omega) (by omega) (by omega), e]
  · have e := digV1 h
    rcases h' with ⟨h', rfl⟩ | ⟨h', rfl⟩
    · rw [dig_no _ _ (by omega)]
    · rw [dig_yes _ _ (by omega) (by omega) (by omega), e]
  · have e := digV2 h
    rcases h' with ⟨h', rfl⟩ | ⟨h', rfl⟩
    · rw [dig_no _ _ (by omega)]
    · rw [dig_yes _ _ (by omega) (by omega) (by omega), e]
  · have e := digV3 h
    subst h'
    rw [dig_yes _ _ (by omega) (by omega) (by omega), e]

set_option maxHeartbeats 2000000 in
theorem digit_any (c base : Int) (w : World) :
    Calls Tryd.prog 78 #[.int .i32 c, .int .i64 base] w fun e w' => e = .returned (.int .i64 (dig c base)) ∧ w = w' := by
  go_enter Tryd.func78, Tryd.ntmps78
  go_wp2_with fail
  all_goals
    go_ret
    refine ⟨ret_int ?_, rfl⟩
    go_light; try simp only [beq_iff_eq, beq_eq_false_iff_ne, ne_eq, bne_iff_ne, bne_eq_false_iff_eq, decide_eq_true_eq, decide_eq_false_iff_not, Bool.and_eq_true, Bool.or_eq_true, Bool.not_eq_true', Bool.and_eq_false_iff, Bool.or_eq_false_iff] at *
    apply dig_is
    omega

set_option maxHeartbeats 2000000 in
theorem refDigit_any (c base : Int) (w : World) :
    Calls Tryd.prog 47 #[.int .i64 c, .int .i64 base] w fun e w' => e = .returned (.int .i64 (dig c base)) ∧ w = w' := by
  go_enter Tryd.func47, Tryd.ntmps47
  go_wp2_with (go_at_call 53; refine (in_or _ _ _ _).mono ?_; rintro e w' (⟨rfl, hx, rfl⟩ | ⟨rfl, hx, rfl⟩))
  all_goals
    go_ret
    refine ⟨ret_int ?_, rfl⟩
    try simp only [Hid] at *
    go_light; try simp only [beq_iff_eq, beq_eq_false_iff_ne, ne_eq, bne_iff_ne, bne_eq_false_iff_eq, decide_eq_true_eq, decide_eq_false_iff_not, Bool.and_eq_true, Bool.or_eq_true, Bool.not_eq_true', Bool.and_eq_false_iff, Bool.or_eq_false_iff] at *
    apply dig_is
    omega
end Go.Proofs.YtmgnpgbganjgfaaDoor
