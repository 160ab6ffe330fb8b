/- DERIVED. The walks of layer 1: glyph's and its reference's functions. -/
import Derived.Test.YtmgnpgbganjgfaaDoorCls
import Derived.Test.YtmgnpgbganjgfaaDoorBase
set_option linter.unusedSimpArgs false
set_option linter.unusedVariables false
namespace Go.Proofs.YtmgnpgbganjgfaaDoor
open Go.RowKit


set_option maxHeartbeats 400000 in
theorem in_any (c l h : Int) (w : World) :
    Calls Tryd.prog 53 #[.int .i64 c, .int .i64 l, .int .i64 h] w fun e w' => e = .returned (.bool (decide (l ≤ c) && decide (c ≤ h))) ∧ w = w' := by
  by_cases h1 : l ≤ c <;> by_cases h2 : c ≤ h
  all_goals
    go_enter Tryd.func53, Tryd.ntmps53
    go_wp2
    go_ret
    exact ⟨by simp [h1, h2], rfl⟩

set_option maxHeartbeats 400000 in
theorem mark_any (c : Int) (w : World) (hm : c < 128 ∧ ¬ c = 32 ∧ ¬ (9 ≤ c ∧ c ≤ 13) ∧ ¬ (48 ≤ c ∧ c ≤ 57) ∧ ¬ (97 ≤ c ∧ c ≤ 122) ∧ ¬ c = 95 ∧ ¬ (65 ≤ c ∧ c ≤ 90)) :
    Calls Tryd.prog 63 #[.int .i32 c] w fun e w' => e = .returned (.int .i64 (cls c)) ∧ w = w' := by
  obtain ⟨h1, h2, h3, h4, h5, h6, h7⟩ := hm
  go_enter Tryd.func63, Tryd.ntmps63
  go_wp2
  all_goals
    go_ret
    refine ⟨ret_int ?_, rfl⟩
    go_light; try simp only [beq_iff_eq, beq_eq_false_iff_ne, ne_eq, bne_iff_ne, bne_eq_false_iff_eq, decide_eq_true_eq, decide_eq_false_iff_not, Bool.and_eq_true, Bool.or_eq_true, Bool.not_eq_true', Bool.and_eq_false_iff, Bool.or_eq_false_iff] at *
    first | exact cls1 _ (by omega) | exact cls2 _ (by omega) | exact cls3 _ (by omega) | exact cls4 _ (by omega) | exact cls6 _ (by omega) | exact cls7 _ (by omega) | exact cls5 _ (by omega) | exact cls0 _ (by omega) | exact cls8 _ (by omega)

set_option maxHeartbeats 1600000 in
theorem beyond_any (c : Int) (w : World) (h1 : 128 ≤ c) :
    Calls Tryd.prog 64 #[.int .i32 c] w fun e w' => e = .returned (.int .i64 (cls c)) ∧ w = w' := by
  go_enter Tryd.func64, Tryd.ntmps64
  go_wp2
  all_goals
    go_ret
    refine ⟨ret_int ?_, rfl⟩
    go_light; try simp only [beq_iff_eq, beq_eq_false_iff_ne, ne_eq, bne_iff_ne, bne_eq_false_iff_eq, decide_eq_true_eq, decide_eq_false_iff_not, Bool.and_eq_true, Bool.or_eq_true, Bool.not_eq_true', Bool.and_eq_false_iff, Bool.or_eq_false_iff] at *
    first | exact cls1 _ (by omega) | exact cls2 _ (by omega) | exact cls3 _ (by omega) | exact cls4 _ (by omega) | exact cls6 _ (by omega) | exact cls7 _ (by omega) | exact cls5 _ (by omega) | exact cls0 _ (by omega) | exact cls8 _ (by omega)

set_option maxHeartbeats 800000 in
theorem class_any (c : Int) (w : World) :
    Calls Tryd.prog 51 #[.int .i32 c] w fun e w' => e = .returned (.int .i64 (cls c)) ∧ w = w' := by
  go_enter Tryd.func51, Tryd.ntmps51
  go_wp2_with fail
  all_goals first
    | (go_ret; refine ⟨ret_int ?_, rfl⟩; (go_light; try simp only [beq_iff_eq, beq_eq_false_iff_ne, ne_eq, bne_iff_ne, bne_eq_false_iff_eq, decide_eq_true_eq, decide_eq_false_iff_not, Bool.and_eq_true, Bool.or_eq_true, Bool.not_eq_true', Bool.and_eq_false_iff, Bool.or_eq_false_iff] at *); (first | exact cls1 _ (by omega) | exact cls2 _ (by omega) | exact cls3 _ (by omega) | exact cls4 _ (by omega) | exact cls6 _ (by omega) | exact cls7 _ (by omega) | exact cls5 _ (by omega) | exact cls0 _ (by omega) | exact cls8 _ (by omega)))
    | (refine (mark_any _ _ (by (go_light; try simp only [beq_iff_eq, beq_eq_false_iff_ne, ne_eq, bne_iff_ne, bne_eq_false_iff_eq, decide_eq_true_eq, decide_eq_false_iff_not, Bool.and_eq_true, Bool.or_eq_true, Bool.not_eq_true', Bool.and_eq_false_iff, Bool.or_eq_false_iff] at *); omega)).mono ?_; rintro e w' ⟨rfl, rfl⟩; go_wp2_with fail; go_ret; exact ⟨rfl, rfl⟩)
    | (refine (beyond_any _ _ (by (go_light; try simp only [beq_iff_eq, beq_eq_false_iff_ne, ne_eq, bne_iff_ne, bne_eq_false_iff_eq, decide_eq_true_eq, decide_eq_false_iff_not, Bool.and_eq_true, Bool.or_eq_true, Bool.not_eq_true', Bool.and_eq_false_iff, Bool.or_eq_false_iff] at *); omega)).mono ?_; rintro e w' ⟨rfl, rfl⟩; go_wp2_with fail; go_ret; exact ⟨rfl, rfl⟩)

/-- 'in', both ways. -/
def InOr (c l h : Int) (w : World) (e : Ending) (w' : World) : Prop :=
  (e = .returned (.bool true) ∧ (l ≤ c ∧ c ≤ h) ∧ w = w') ∨ (e = .returned (.bool false) ∧ Hid (¬ (l ≤ c ∧ c ≤ h)) ∧ w = w')
theorem in_or (c l h : Int) (w : World) :
    Calls Tryd.prog 53 #[.int .i64 c, .int .i64 l, .int .i64 h] w (InOr c l h w) :=
  (in_any c l h w).mono fun e w' ⟨he, hw⟩ => by
    by_cases hh : l ≤ c ∧ c ≤ h
    · exact .inl ⟨by rw [he]; simp [hh.1, hh.2], hh, hw⟩
    · refine .inr ⟨?_, hh, hw⟩
      rw [he]
      have : (decide (l ≤ c) && decide (c ≤ h)) = false := by simpa using hh
      rw [this]

set_option maxHeartbeats 1600000 in
set_option maxRecDepth 100000 in
theorem refClass_any (c : Int) (w : World) :
    Calls Tryd.prog 44 #[.int .i64 c] w fun e w' => e = .returned (.int .i64 (cls c)) ∧ w = w' := by
  go_enter Tryd.func44, Tryd.ntmps44
  go_wp2_with (go_at_call 53; refine (in_or _ _ _ _).mono ?_; rintro e w' (⟨rfl, hx, rfl⟩ | ⟨rfl, hx, rfl⟩))
  all_goals
    go_ret
    refine ⟨ret_int ?_, rfl⟩
    try simp only [Hid] at *
    go_light; try simp only [beq_iff_eq, beq_eq_false_iff_ne, ne_eq, bne_iff_ne, bne_eq_false_iff_eq, decide_eq_true_eq, decide_eq_false_iff_not, Bool.and_eq_true, Bool.or_eq_true, Bool.not_eq_true', Bool.and_eq_false_iff, Bool.or_eq_false_iff] at *
    first | exact cls1 _ (by omega) | exact cls2 _ (by omega) | exact cls3 _ (by omega) | exact cls4 _ (by omega) | exact cls6 _ (by omega) | exact cls7 _ (by omega) | exact cls5 _ (by omega) | exact cls0 _ (by omega) | exact cls8 _ (by omega)
end Go.Proofs.YtmgnpgbganjgfaaDoor
