/- DERIVED. PLAIN: the classes of runes, as the document says them. -/
import Derived.KernelRfl
set_option linter.unusedSimpArgs false
set_option linter.unusedVariables false
namespace Go.Proofs.YtmgnpgbganjgfaaDoor
/-- The class of a number, as the document says it. -/
def cls (c : Int) : Int :=
  if (9 ≤ c ∧ c ≤ 13) ∨ c = 32 then 1
  else if (97 ≤ c ∧ c ≤ 122) ∨ c = 95 ∨ (223 ≤ c ∧ c ≤ 246) ∨ (248 ≤ c ∧ c ≤ 255) ∨ (945 ≤ c ∧ c ≤ 969) then 2
  else if (65 ≤ c ∧ c ≤ 90) ∨ (192 ≤ c ∧ c ≤ 214) ∨ (216 ≤ c ∧ c ≤ 222) ∨ (913 ≤ c ∧ c ≤ 937 ∧ c ≠ 930) then 3
  else if 48 ≤ c ∧ c ≤ 57 then 4
  else if c = 40 ∨ c = 41 ∨ c = 44 ∨ c = 59 ∨ c = 91 ∨ c = 93 ∨ c = 96 ∨ c = 123 ∨ c = 125 then 6
  else if c = 34 ∨ c = 39 then 7
  else if (33 ≤ c ∧ c ≤ 126) ∨ (161 ≤ c ∧ c ≤ 191 ∧ c ≠ 173) ∨ c = 215 ∨ c = 247 ∨ (8592 ≤ c ∧ c ≤ 8959) then 5
  else if c < 160 ∨ c = 173 ∨ (55296 ≤ c ∧ c ≤ 57343) ∨ c > 1114111 then 0
  else 8
theorem cls1 (c : Int) (h : ((9 ≤ c ∧ c ≤ 13) ∨ c = 32)) : 1 = cls c := by
  unfold cls; rw [if_pos h]
theorem cls2 (c : Int) (h : ¬ ((9 ≤ c ∧ c ≤ 13) ∨ c = 32) ∧ ((97 ≤ c ∧ c ≤ 122) ∨ c = 95 ∨ (223 ≤ c ∧ c ≤ 246) ∨ (248 ≤ c ∧ c ≤ 255) ∨ (945 ≤ c ∧ c ≤ 969))) : 2 = cls c := by
  obtain ⟨h0, h1⟩ := h
  unfold cls; rw [if_neg h0, if_pos h1]
theorem cls3 (c : Int) (h : ¬ ((9 ≤ c ∧ c ≤ 13) ∨ c = 32) ∧ ¬ ((97 ≤ c ∧ c ≤ 122) ∨ c = 95 ∨ (223 ≤ c ∧ c ≤ 246) ∨ (248 ≤ c ∧ c ≤ 255) ∨ (945 ≤ c ∧ c ≤ 969)) ∧ ((65 ≤ c ∧ c ≤ 90) ∨ (192 ≤ c ∧ c ≤ 214) ∨ (216 ≤ c ∧ c ≤ 222) ∨ (913 ≤ c ∧ c ≤ 937 ∧ c ≠ 930))) : 3 = cls c := by
  obtain ⟨h0, h1, h2⟩ := h
  unfold cls; rw [if_neg h0, if_neg h1, if_pos h2]
theorem cls4 (c : Int) (h : ¬ ((9 ≤ c ∧ c ≤ 13) ∨ c = 32) ∧ ¬ ((97 ≤ c ∧ c ≤ 122) ∨ c = 95 ∨ (223 ≤ c ∧ c ≤ 246) ∨ (248 ≤ c ∧ c ≤ 255) ∨ (945 ≤ c ∧ c ≤ 969)) ∧ ¬ ((65 ≤ c ∧ c ≤ 90) ∨ (192 ≤ c ∧ c ≤ 214) ∨ (216 ≤ c ∧ c ≤ 222) ∨ (913 ≤ c ∧ c ≤ 937 ∧ c ≠ 930)) ∧ (48 ≤ c ∧ c ≤ 57)) : 4 = cls c := by
  obtain ⟨h0, h1, h2, h3⟩ := h
  unfold cls; rw [if_neg h0, if_neg h1, if_neg h2, if_pos h3]
theorem cls6 (c : Int) (h : ¬ ((9 ≤ c ∧ c ≤ 13) ∨ c = 32) ∧ ¬ ((97 ≤ c ∧ c ≤ 122) ∨ c = 95 ∨ (223 ≤ c ∧ c ≤ 246) ∨ (248 ≤ c ∧ c ≤ 255) ∨ (945 ≤ c ∧ c ≤ 969)) ∧ ¬ ((65 ≤ c ∧ c ≤ 90) ∨ (192 ≤ c ∧ c ≤ 214) ∨ (216 ≤ c ∧ c ≤ 222) ∨ (913 ≤ c ∧ c ≤ 937 ∧ c ≠ 930)) ∧ ¬ (48 ≤ c ∧ c ≤ 57) ∧ (c = 40 ∨ c = 41 ∨ c = 44 ∨ c = 59 ∨ c = 91 ∨ c = 93 ∨ c = 96 ∨ c = 123 ∨ c = 125)) : 6 = cls c := by
  obtain ⟨h0, h1, h2, h3, h4⟩ := h
  unfold cls; rw [if_neg h0, if_neg h1, if_neg h2, if_neg h3, if_pos h4]
theorem cls7 (c : Int) (h : ¬ ((9 ≤ c ∧ c ≤ 13) ∨ c = 32) ∧ ¬ ((97 ≤ c ∧ c ≤ 122) ∨ c = 95 ∨ (223 ≤ c ∧ c ≤ 246) ∨ (248 ≤ c ∧ c ≤ 255) ∨ (945 ≤ c ∧ c ≤ 969)) ∧ ¬ ((65 ≤ c ∧ c ≤ 90) ∨ (192 ≤ c ∧ c ≤ 214) ∨ (216 ≤ c ∧ c ≤ 222) ∨ (913 ≤ c ∧ c ≤ 937 ∧ c ≠ 930)) ∧ ¬ (48 ≤ c ∧ c ≤ 57) ∧ ¬ (c = 40 ∨ c = 41 ∨ c = 44 ∨ c = 59 ∨ c = 91 ∨ c = 93 ∨ c = 96 ∨ c = 123 ∨ c = 125) ∧ (c = 34 ∨ c = 39)) : 7 = cls c := by
  obtain ⟨h0, h1, h2, h3, h4, h5⟩ := h
  unfold cls; rw [if_neg h0, if_neg h1, if_neg h2, if_neg h3, if_neg h4, if_pos h5]
theorem cls5 (c : Int) (h : ¬ ((9 ≤ c ∧ c ≤ 13) ∨ c = 32) ∧ ¬ ((97 ≤ c ∧ c ≤ 122) ∨ c = 95 ∨ (223 ≤ c ∧ c ≤ 246) ∨ (248 ≤ c ∧ c ≤ 255) ∨ (945 ≤ c ∧ c ≤ 969)) ∧ ¬ ((65 ≤ c ∧ c ≤ 90) ∨ (192 ≤ c ∧ c ≤ 214) ∨ (216 ≤ c ∧ c ≤ 222) ∨ (913 ≤ c ∧ c ≤ 937 ∧ c ≠ 930)) ∧ ¬ (48 ≤ c ∧ c ≤ 57) ∧ ¬ (c = 40 ∨ c = 41 ∨ c = 44 ∨ c = 59 ∨ c = 91 ∨ c = 93 ∨ c = 96 ∨ c = 123 ∨ c = 125) ∧ ¬ (c = 34 ∨ c = 39) ∧ ((33 ≤ c ∧ c ≤ 126) ∨ (161 ≤ c ∧ c ≤ 191 ∧ c ≠ 173) ∨ c = 215 ∨ c = 247 ∨ (8592 ≤ c ∧ c ≤ 8959))) : 5 = cls c := by
  obtain ⟨h0, h1, h2, h3, h4, h5, h6⟩ := h
  unfold cls; rw [if_neg h0, if_neg h1, if_neg h2, if_neg h3, if_neg h4, if_neg h5, if_pos h6]
theorem cls0 (c : Int) (h : ¬ ((9 ≤ c ∧ c ≤ 13) ∨ c = 32) ∧ ¬ ((97 ≤ c ∧ c ≤ 122) ∨ c = 95 ∨ (223 ≤ c ∧ c ≤ 246) ∨ (248 ≤ c ∧ c ≤ 255) ∨ (945 ≤ c ∧ c ≤ 969)) ∧ ¬ ((65 ≤ c ∧ c ≤ 90) ∨ (192 ≤ c ∧ c ≤ 214) ∨ (216 ≤ c ∧ c ≤ 222) ∨ (913 ≤ c ∧ c ≤ 937 ∧ c ≠ 930)) ∧ ¬ (48 ≤ c ∧ c ≤ 57) ∧ ¬ (c = 40 ∨ c = 41 ∨ c = 44 ∨ c = 59 ∨ c = 91 ∨ c = 93 ∨ c = 96 ∨ c = 123 ∨ c = 125) ∧ ¬ (c = 34 ∨ c = 39) ∧ ¬ ((33 ≤ c ∧ c ≤ 126) ∨ (161 ≤ c ∧ c ≤ 191 ∧ c ≠ 173) ∨ c = 215 ∨ c = 247 ∨ (8592 ≤ c ∧ c ≤ 8959)) ∧ (c < 160 ∨ c = 173 ∨ (55296 ≤ c ∧ c ≤ 57343) ∨ c > 1114111)) : 0 = cls c := by
  obtain ⟨h0, h1, h2, h3, h4, h5, h6, h7⟩ := h
  unfold cls; rw [if_neg h0, if_neg h1, if_neg h2, if_neg h3, if_neg h4, if_neg h5, if_neg h6, if_pos h7]
theorem cls8 (c : Int) (h : ¬ ((9 ≤ c ∧ c ≤ 13) ∨ c = 32) ∧ ¬ ((97 ≤ c ∧ c ≤ 122) ∨ c = 95 ∨ (223 ≤ c ∧ c ≤ 246) ∨ (248 ≤ c ∧ c ≤ 255) ∨ (945 ≤ c ∧ c ≤ 969)) ∧ ¬ ((65 ≤ c ∧ c ≤ 90) ∨ (192 ≤ c ∧ c ≤ 214) ∨ (216 ≤ c ∧ c ≤ 222) ∨ (913 ≤ c ∧ c ≤ 937 ∧ c ≠ 930)) ∧ ¬ (48 ≤ c ∧ c ≤ 57) ∧ ¬ (c = 40 ∨ c = 41 ∨ c = 44 ∨ c = 59 ∨ c = 91 ∨ c = 93 ∨ c = 96 ∨ c = 123 ∨ c = 125) ∧ ¬ (c = 34 ∨ c = 39) ∧ ¬ ((33 ≤ c ∧ c ≤ 126) ∨ (161 ≤ c ∧ c ≤ 191 ∧ c ≠ 173) ∨ c = 215 ∨ c = 247 ∨ (8592 ≤ c ∧ c ≤ 8959)) ∧ ¬ (c < 160 ∨ c = 173 ∨ (55296 ≤ c ∧ c ≤ 57343) ∨ c > 1114111)) : 8 = cls c := by
  obtain ⟨h0, h1, h2, h3, h4, h5, h6, h7⟩ := h
  unfold cls; rw [if_neg h0, if_neg h1, if_neg h2, if_neg h3, if_neg h4, if_neg h5, if_neg h6, if_neg h7]
end Go.Proofs.YtmgnpgbganjgfaaDoor
