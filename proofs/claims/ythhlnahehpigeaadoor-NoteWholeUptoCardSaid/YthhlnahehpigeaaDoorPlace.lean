/- DERIVED. PLAIN: layer 2: newlines, signs, lines and columns. -/
import Derived.Test.YthhlnahehpigeaaDoorDecMore
set_option linter.unusedSimpArgs false
set_option linter.unusedVariables false
namespace Go.Proofs.YthhlnahehpigeaaDoor

/-- How many bytes the newline has that begins a text; 0: none does. -/
def nl (l : List UInt8) : Nat :=
  if l = [] then 0
  else if l.getD 0 0 = 13 ∧ 1 < l.length ∧ l.getD 1 0 = 10 then 2
  else if l.getD 0 0 = 13 ∨ l.getD 0 0 = 10 ∨ l.getD 0 0 = 12 then 1
  else 0
/-- How many bytes the newline or sign has that begins a text. -/
def unit (l : List UInt8) : Nat := if 0 < nl l then nl l else (dec l).2
def stopC (col : Int) : Int := (col - 1) / 8 * 8 + 9
def lineS (l : List UInt8) (line : Int) : Int := if 0 < nl l then line + 1 else line
def colS (l : List UInt8) (col : Int) : Int := if 0 < nl l then 1 else if l.getD 0 0 = 9 then stopC col else col + 1

theorem nl_nil : nl [] = 0 := rfl
theorem nl_le (l : List UInt8) : nl l ≤ 2 ∧ nl l ≤ l.length := by
  unfold nl
  cases l with
  | nil => simp
  | cons a t =>
    rw [if_neg (by simp)]
    split
    · rename_i h; omega
    · split <;> simp
theorem unit_bd (l : List UInt8) (h : l ≠ []) : 1 ≤ unit l ∧ unit l ≤ 4 ∧ unit l ≤ l.length := by
  have h1 := nl_le l
  have h2 := dec_len l h
  unfold unit
  split <;> omega

/-- The place n bytes further on. -/
def ofL (l : List UInt8) (n : Nat) (line col : Int) : Int × Int :=
  if h : 0 < n ∧ 0 < unit l ∧ unit l ≤ n then ofL (l.drop (unit l)) (n - unit l) (lineS l line) (colS l col) else (line, col)
termination_by n
theorem ofL_on (l : List UInt8) (n : Nat) (line col : Int) (h : l ≠ []) (hn : unit l ≤ n) : ofL l n line col = ofL (l.drop (unit l)) (n - unit l) (lineS l line) (colS l col) := by
  have := unit_bd l h
  rw [ofL, dif_pos ⟨by omega, by omega, hn⟩]
theorem ofL_end (l : List UInt8) (line col : Int) : ofL l 0 line col = (line, col) := by
  rw [ofL, dif_neg (by omega)]
theorem ofL_stop (l : List UInt8) (n : Nat) (line col : Int) (hn : n < unit l) : ofL l n line col = (line, col) := by
  rw [ofL, dif_neg (by omega)]

theorem stopC_bd (col : Int) : col + 1 ≤ stopC col ∧ stopC col ≤ col + 8 := by unfold stopC; omega
theorem colS_bd (l : List UInt8) (col : Int) (h : 1 ≤ col) : 1 ≤ colS l col ∧ colS l col ≤ col + 8 := by
  have := stopC_bd col
  unfold colS
  split
  · omega
  · split <;> omega
theorem stopC_ref (col : Int) (h : 1 ≤ col) : stopC col = col + 8 - Int.tmod (col - 1) 8 := by
  unfold stopC
  rw [Int.tmod_eq_emod_of_nonneg (by omega)]
  omega

/-- What stands between newlines; cur is what the line has already. -/
def linesL (cur : List UInt8) (l : List UInt8) : List (List UInt8) :=
  if h : l = [] then [cur]
  else if 0 < nl l then cur :: linesL [] (l.drop (nl l))
  else linesL (cur ++ [l.getD 0 0]) (l.drop 1)
termination_by l.length
decreasing_by
  all_goals
    have := List.length_pos_iff.2 h
    rw [List.length_drop]
    omega

/-- What a text is with blanks in the place of tabs. -/
def spreadL (l : List UInt8) (col : Int) : List UInt8 :=
  if h : l = [] then []
  else (if 0 < nl l ∨ l.getD 0 0 ≠ 9 then l.take (unit l) else List.replicate (stopC col - col).toNat 32) ++ spreadL (l.drop (unit l)) (colS l col)
termination_by l.length
decreasing_by
  have := List.length_pos_iff.2 h
  have := unit_bd l h
  rw [List.length_drop]
  omega

def isBlank (b : UInt8) : Bool := b == 32 || (9 ≤ b && b ≤ 13)
/-- A text without the blanks at its end. -/
def trimL (l : List UInt8) : List UInt8 := (l.reverse.dropWhile isBlank).reverse
end Go.Proofs.YthhlnahehpigeaaDoor
