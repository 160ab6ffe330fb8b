/- DERIVED. PLAIN: what hangs on a rune's own bytes alone. -/
import Derived.Test.YtmgnpgbganjgfaaDoorDec
set_option linter.unusedSimpArgs false
set_option linter.unusedVariables false
namespace Go.Proofs.YtmgnpgbganjgfaaDoor

/-- The decoder's answer is that of a byte alone, a fault, or a rune of two to four bytes that stand there. -/
theorem dec_kinds (n b0 b1 b2 b3 : Nat) :
    (b0 < 128 ∧ Lib.decodeN n b0 b1 b2 b3 = (b0, 1))
    ∨ (128 ≤ b0 ∧ Lib.decodeN n b0 b1 b2 b3 = (65533, 1))
    ∨ (1 < n ∧ 128 ≤ b0 ∧ ∃ c, Lib.decodeN n b0 b1 b2 b3 = (c, 2) ∧ ∀ m x y, 2 ≤ m → Lib.decodeN m b0 b1 x y = (c, 2))
    ∨ (2 < n ∧ 128 ≤ b0 ∧ ∃ c, Lib.decodeN n b0 b1 b2 b3 = (c, 3) ∧ ∀ m x, 3 ≤ m → Lib.decodeN m b0 b1 b2 x = (c, 3))
    ∨ (3 < n ∧ 128 ≤ b0 ∧ ∃ c, Lib.decodeN n b0 b1 b2 b3 = (c, 4) ∧ ∀ m, 4 ≤ m → Lib.decodeN m b0 b1 b2 b3 = (c, 4)) := by
  by_cases h0 : b0 < 128
  · exact .inl ⟨h0, by simp [Lib.decodeN, h0]⟩
  right
  have h1 : 128 ≤ b0 := by omega
  by_cases c2 : b0 / 32 = 6 ∧ (1 < n ∧ b1 / 64 = 2)
  · by_cases d : b0 % 32 * 64 + b1 % 64 ≥ 128
    · right; left
      refine ⟨c2.2.1, h1, b0 % 32 * 64 + b1 % 64, ?_, fun m x y hm => ?_⟩
      · unfold Lib.decodeN; rw [if_neg h0, if_pos c2, if_pos d]
      · unfold Lib.decodeN; rw [if_neg h0, if_pos ⟨c2.1, by omega, c2.2.2⟩, if_pos d]
    · left; exact ⟨h1, by unfold Lib.decodeN; rw [if_neg h0, if_pos c2, if_neg d]⟩
  by_cases c3 : b0 / 16 = 14 ∧ (1 < n ∧ b1 / 64 = 2) ∧ (2 < n ∧ b2 / 64 = 2)
  · by_cases d : b0 % 16 * 4096 + b1 % 64 * 64 + b2 % 64 ≥ 2048 ∧ (b0 % 16 * 4096 + b1 % 64 * 64 + b2 % 64 < 55296 ∨ (57344 ≤ b0 % 16 * 4096 + b1 % 64 * 64 + b2 % 64 ∧ b0 % 16 * 4096 + b1 % 64 * 64 + b2 % 64 ≤ 1114111))
    · right; right; left
      refine ⟨c3.2.2.1, h1, b0 % 16 * 4096 + b1 % 64 * 64 + b2 % 64, ?_, fun m x hm => ?_⟩
      · unfold Lib.decodeN; rw [if_neg h0, if_neg c2, if_pos c3, if_pos d]
      · unfold Lib.decodeN; rw [if_neg h0, if_neg (by omega), if_pos ⟨c3.1, ⟨by omega, c3.2.1.2⟩, by omega, c3.2.2.2⟩, if_pos d]
    · left; exact ⟨h1, by unfold Lib.decodeN; rw [if_neg h0, if_neg c2, if_pos c3, if_neg d]⟩
  by_cases c4 : b0 / 8 = 30 ∧ (1 < n ∧ b1 / 64 = 2) ∧ (2 < n ∧ b2 / 64 = 2) ∧ (3 < n ∧ b3 / 64 = 2)
  · by_cases d : b0 % 8 * 262144 + b1 % 64 * 4096 + b2 % 64 * 64 + b3 % 64 ≥ 65536 ∧ (b0 % 8 * 262144 + b1 % 64 * 4096 + b2 % 64 * 64 + b3 % 64 < 55296 ∨ (57344 ≤ b0 % 8 * 262144 + b1 % 64 * 4096 + b2 % 64 * 64 + b3 % 64 ∧ b0 % 8 * 262144 + b1 % 64 * 4096 + b2 % 64 * 64 + b3 % 64 ≤ 1114111))
    · right; right; right
      refine ⟨c4.2.2.2.1, h1, b0 % 8 * 262144 + b1 % 64 * 4096 + b2 % 64 * 64 + b3 % 64, ?_, fun m hm => ?_⟩
      · unfold Lib.decodeN; rw [if_neg h0, if_neg c2, if_neg c3, if_pos c4, if_pos d]
      · unfold Lib.decodeN; rw [if_neg h0, if_neg (by omega), if_neg (by omega), if_pos ⟨c4.1, ⟨by omega, c4.2.1.2⟩, ⟨by omega, c4.2.2.1.2⟩, by omega, c4.2.2.2.2⟩, if_pos d]
    · left; exact ⟨h1, by unfold Lib.decodeN; rw [if_neg h0, if_neg c2, if_neg c3, if_pos c4, if_neg d]⟩
  · left; exact ⟨h1, by unfold Lib.decodeN; rw [if_neg h0, if_neg c2, if_neg c3, if_neg c4]⟩

theorem getD_take (l : List UInt8) (n k : Nat) (h : k < n) : (l.take n).getD k 0 = l.getD k 0 := by
  rw [List.getD_eq_getElem?_getD, List.getD_eq_getElem?_getD, List.getElem?_take_of_lt h]
theorem getD_app (l t : List UInt8) (k : Nat) (h : k < l.length) : (l ++ t).getD k 0 = l.getD k 0 := by
  rw [List.getD_eq_getElem?_getD, List.getD_eq_getElem?_getD, List.getElem?_append_left h]

/-- A rune has one to four bytes, and they stand there. -/
theorem dec_len (l : List UInt8) (h : l ≠ []) : 1 ≤ (dec l).2 ∧ (dec l).2 ≤ 4 ∧ (dec l).2 ≤ l.length := by
  have hl : 0 < l.length := List.length_pos_iff.2 h
  unfold dec
  rcases dec_kinds l.length (l.getD 0 0).toNat (l.getD 1 0).toNat (l.getD 2 0).toNat (l.getD 3 0).toNat with ⟨_, e⟩ | ⟨_, e⟩ | ⟨_, _, c, e, _⟩ | ⟨_, _, c, e, _⟩ | ⟨_, _, c, e, _⟩
  all_goals rw [e]; simp only; omega

/-- A rune's bytes by themselves are that rune. -/
theorem dec_take (l : List UInt8) (h : l ≠ []) : dec (l.take (dec l).2) = dec l := by
  have hl : 0 < l.length := List.length_pos_iff.2 h
  rcases dec_kinds l.length (l.getD 0 0).toNat (l.getD 1 0).toNat (l.getD 2 0).toNat (l.getD 3 0).toNat with ⟨a, e⟩ | ⟨a, e⟩ | ⟨a, _, c, e, f⟩ | ⟨a, _, c, e, f⟩ | ⟨a, _, c, e, f⟩
  all_goals
    have e' : dec l = _ := e
    rw [e']
    unfold dec
    simp only [List.length_take]
  · rw [getD_take _ _ 0 (by omega)]
    unfold Lib.decodeN; rw [if_pos a]
  · rw [getD_take _ _ 0 (by omega)]
    rcases dec_kinds (min 1 l.length) (l.getD 0 0).toNat ((l.take 1).getD 1 0).toNat ((l.take 1).getD 2 0).toNat ((l.take 1).getD 3 0).toNat with ⟨_, e⟩ | ⟨_, e⟩ | ⟨_, _⟩ | ⟨_, _⟩ | ⟨_, _⟩
    · omega
    · exact e
    all_goals omega
  · rw [getD_take _ _ 0 (by omega), getD_take _ _ 1 (by omega)]
    exact f _ _ _ (by omega)
  · rw [getD_take _ _ 0 (by omega), getD_take _ _ 1 (by omega), getD_take _ _ 2 (by omega)]
    exact f _ _ (by omega)
  · rw [getD_take _ _ 0 (by omega), getD_take _ _ 1 (by omega), getD_take _ _ 2 (by omega), getD_take _ _ 3 (by omega)]
    exact f _ (by omega)

/-- No fault begins the text. -/
def okRune (l : List UInt8) : Bool := !((dec l).1 == 65533 && (dec l).2 == 1)

/-- A rune is the same, whatever stands behind it. -/
theorem dec_append (l t : List UInt8) (h : l ≠ []) (hf : okRune l = true) : dec (l ++ t) = dec l := by
  have hl : 0 < l.length := List.length_pos_iff.2 h
  have e0 := getD_app l t 0 (by omega)
  rcases dec_kinds l.length (l.getD 0 0).toNat (l.getD 1 0).toNat (l.getD 2 0).toNat (l.getD 3 0).toNat with ⟨a, e⟩ | ⟨a, e⟩ | ⟨a, _, c, e, f⟩ | ⟨a, _, c, e, f⟩ | ⟨a, _, c, e, f⟩
  all_goals
    have e' : dec l = _ := e
    rw [e']
  · unfold dec
    rw [e0]
    unfold Lib.decodeN; rw [if_pos a]
  · simp [okRune, e'] at hf
  all_goals
    unfold dec
    simp only [List.length_append]
    rw [e0, getD_app _ _ 1 (by omega)]
  · exact f _ _ _ (by omega)
  · rw [getD_app _ _ 2 (by omega)]
    exact f _ _ (by omega)
  · rw [getD_app _ _ 2 (by omega), getD_app _ _ 3 (by omega)]
    exact f _ (by omega)

theorem dec_lt (l : List UInt8) : (dec l).1 < 1114112 := by
  have := (l.getD 0 0).toNat_lt
  have := (l.getD 1 0).toNat_lt
  have := (l.getD 2 0).toNat_lt
  have := (l.getD 3 0).toNat_lt
  unfold dec Lib.decodeN
  repeat' split
  all_goals simp only
  all_goals omega
/-- A rune below 128 is its one byte. -/
theorem dec_small (l : List UInt8) (h : (dec l).1 < 128) : (l.getD 0 0).toNat = (dec l).1 ∧ (dec l).2 = 1 := by
  have h1 := (l.getD 1 0).toNat_lt
  have h2 := (l.getD 2 0).toNat_lt
  have h3 := (l.getD 3 0).toNat_lt
  unfold dec Lib.decodeN at *
  revert h
  repeat' split
  all_goals (intro h; first | exact ⟨rfl, rfl⟩ | (exfalso; simp only at h; omega))
theorem dec_ascii (l : List UInt8) (h : (l.getD 0 0).toNat < 128) : dec l = ((l.getD 0 0).toNat, 1) := by
  unfold dec Lib.decodeN; rw [if_pos h]
theorem nextL_bd (l : List UInt8) (i : Int) : 0 ≤ (nextL l i).1 ∧ (nextL l i).1 ≤ 1114111 := by
  unfold nextL
  split
  · have := dec_lt (l.drop i.toNat); simp only; omega
  · simp
end Go.Proofs.YtmgnpgbganjgfaaDoor
