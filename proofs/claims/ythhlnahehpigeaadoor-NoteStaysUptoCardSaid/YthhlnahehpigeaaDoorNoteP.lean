/- DERIVED. PLAIN: comments. -/
import Derived.Test.YthhlnahehpigeaaDoorPlaceG
import Derived.Test.YthhlnahehpigeaaDoorPlaceQ
import Derived.Test.YthhlnahehpigeaaDoorRun
set_option linter.unusedSimpArgs false
set_option linter.unusedVariables false
namespace Go.Proofs.YthhlnahehpigeaaDoor

/-- Do two bytes stand at a place? -/
def twoB (l : List UInt8) (i : Nat) (a b : UInt8) : Bool := decide (l[i]? = some a) && decide (l[i + 1]? = some b)
theorem twoB_iff (l : List UInt8) (i : Nat) (a b : UInt8) : twoB l i a b = true ↔ l[i]? = some a ∧ l[i + 1]? = some b := by unfold twoB; simp
theorem twoB_lt {l : List UInt8} {i : Nat} {a b : UInt8} (h : twoB l i a b = true) : i + 2 ≤ l.length := by
  have := (List.getElem?_eq_some_iff.1 ((twoB_iff ..).1 h).2).1; omega
/-- Where a nested comment ends, so deep in; none: it does not end. -/
def nestI (l : List UInt8) (i d : Nat) : Option Nat :=
  if h : i < l.length then
    if twoB l i 123 45 = true then nestI l (i + 2) (d + 1)
    else if twoB l i 45 125 = true then (if d ≤ 1 then some (i + 2) else nestI l (i + 2) (d - 1))
    else nestI l (i + 1) d
  else none
termination_by l.length - i
theorem nestI_in (l : List UInt8) (i d : Nat) (h : twoB l i 123 45 = true) : nestI l i d = nestI l (i + 2) (d + 1) := by
  have := twoB_lt h
  rw [nestI, dif_pos (by omega), if_pos h]
theorem nestI_out (l : List UInt8) (i d : Nat) (h : twoB l i 123 45 = false) (h2 : twoB l i 45 125 = true) : nestI l i d = if d ≤ 1 then some (i + 2) else nestI l (i + 2) (d - 1) := by
  have := twoB_lt h2
  rw [nestI, dif_pos (by omega), if_neg (by rw [h]; simp), if_pos h2]
theorem nestI_on (l : List UInt8) (i d : Nat) (hi : i < l.length) (h : twoB l i 123 45 = false) (h2 : twoB l i 45 125 = false) : nestI l i d = nestI l (i + 1) d := by
  rw [nestI, dif_pos hi, if_neg (by rw [h]; simp), if_neg (by rw [h2]; simp)]
theorem nestI_end (l : List UInt8) (i d : Nat) (hi : l.length ≤ i) : nestI l i d = none := by rw [nestI, dif_neg (by omega)]
theorem twoB_not (l : List UInt8) (i : Nat) (h : twoB l i 45 125 = true) : twoB l i 123 45 = false := by
  cases hq : twoB l i 123 45
  · rfl
  · have h1 := ((twoB_iff ..).1 h).1
    have h2 := ((twoB_iff ..).1 hq).1
    rw [h1] at h2; revert h2; decide
theorem twoB_drop (l : List UInt8) (j i : Nat) (a b : UInt8) : twoB (l.drop j) i a b = twoB l (j + i) a b := by
  unfold twoB; rw [List.getElem?_drop, List.getElem?_drop, Nat.add_assoc]
/-- Read from a place on. -/
theorem nestI_drop (n : Nat) : ∀ (l : List UInt8) (j i d : Nat), l.length - (j + i) ≤ n → nestI l (j + i) d = (nestI (l.drop j) i d).map (j + ·) := by
  induction n with
  | zero => intro l j i d h; rw [nestI_end l _ _ (by omega), nestI_end (l.drop j) _ _ (by rw [List.length_drop]; omega)]; rfl
  | succ n ih =>
    intro l j i d h
    by_cases hi : j + i < l.length
    · by_cases h1 : twoB l (j + i) 123 45 = true
      · rw [nestI_in _ _ _ h1, nestI_in (l.drop j) _ _ (by rw [twoB_drop]; exact h1), Nat.add_assoc, ih l j (i + 2) (d + 1) (by omega)]
      · have h1 : twoB l (j + i) 123 45 = false := by simpa using h1
        by_cases h2 : twoB l (j + i) 45 125 = true
        · rw [nestI_out _ _ _ h1 h2, nestI_out (l.drop j) _ _ (by rw [twoB_drop]; exact h1) (by rw [twoB_drop]; exact h2)]
          by_cases hd : d ≤ 1
          · rw [if_pos hd, if_pos hd]; rfl
          · rw [if_neg hd, if_neg hd, Nat.add_assoc, ih l j (i + 2) (d - 1) (by omega)]
        · have h2 : twoB l (j + i) 45 125 = false := by simpa using h2
          rw [nestI_on _ _ _ hi h1 h2, nestI_on (l.drop j) _ _ (by rw [List.length_drop]; omega) (by rw [twoB_drop]; exact h1) (by rw [twoB_drop]; exact h2), Nat.add_assoc, ih l j (i + 1) d (by omega)]
    · rw [nestI_end l _ _ (by omega), nestI_end (l.drop j) _ _ (by rw [List.length_drop]; omega)]; rfl
/-- Where it ends stand its last two bytes. -/
theorem nestI_last (n : Nat) : ∀ (l : List UInt8) (i d e : Nat), l.length - i ≤ n → nestI l i d = some e → i + 2 ≤ e ∧ e ≤ l.length ∧ twoB l (e - 2) 45 125 = true := by
  induction n with
  | zero => intro l i d e h he; rw [nestI_end l _ _ (by omega)] at he; cases he
  | succ n ih =>
    intro l i d e h he
    by_cases hi : i < l.length
    · by_cases h1 : twoB l i 123 45 = true
      · rw [nestI_in _ _ _ h1] at he
        obtain ⟨a, b, c⟩ := ih l (i + 2) (d + 1) e (by omega) he
        exact ⟨by omega, b, c⟩
      · have h1 : twoB l i 123 45 = false := by simpa using h1
        by_cases h2 : twoB l i 45 125 = true
        · rw [nestI_out _ _ _ h1 h2] at he
          by_cases hd : d ≤ 1
          · rw [if_pos hd] at he
            injection he with he
            subst he
            exact ⟨Nat.le_refl _, twoB_lt h2, h2⟩
          · rw [if_neg hd] at he
            obtain ⟨a, b, c⟩ := ih l (i + 2) (d - 1) e (by omega) he
            exact ⟨by omega, b, c⟩
        · have h2 : twoB l i 45 125 = false := by simpa using h2
          rw [nestI_on _ _ _ hi h1 h2] at he
          obtain ⟨a, b, c⟩ := ih l (i + 1) d e (by omega) he
          exact ⟨by omega, b, c⟩
    · rw [nestI_end l _ _ (by omega)] at he; cases he

/-- How long the first line is. -/
def firstN (l : List UInt8) : Nat := (l.takeWhile (fun b => !isNL b)).length
theorem first_cur (l : List UInt8) : ∀ cur, ∃ r, linesL cur l = (cur ++ l.takeWhile (fun b => !isNL b)) :: r := by
  induction l with
  | nil => intro cur; exact ⟨[], by rw [linesL_nil]; simp⟩
  | cons a t ih =>
    intro cur
    rw [List.takeWhile_cons]
    by_cases h : isNL a = true
    · refine ⟨linesL [] ((a :: t).drop (nl (a :: t))), ?_⟩
      rw [linesL_nl cur _ (by simp) ((nl_cons a t).2 h), h]; simp
    · obtain ⟨r, hr⟩ := ih (cur ++ [a])
      refine ⟨r, ?_⟩
      have h' : isNL a = false := by simpa using h
      rw [linesL_on cur _ (by simp) (fun h2 => h ((nl_cons a t).1 h2)), h']
      simpa using hr
theorem first_line (l : List UInt8) : ∃ r, linesL [] l = (l.takeWhile (fun b => !isNL b)) :: r := by simpa using first_cur l []
theorem firstN_le (l : List UInt8) : firstN l ≤ l.length := by
  unfold firstN
  induction l with
  | nil => simp
  | cons a t ih => rw [List.takeWhile_cons]; split <;> simp; omega
/-- How long the row is that begins a text; 0: none does. -/
def rowN (l : List UInt8) : Nat :=
  if 2 ≤ (runL l 0 5).toNat ∧ (l.take (runL l 0 5).toNat).all (· == 45) = true then (runL l 0 5).toNat + firstN (l.drop (runL l 0 5).toNat) else 0
/-- Where the comment ends that begins at a place, and what is wrong. -/
def scanN (l : List UInt8) (i : Int) : Int × Int :=
  if 0 ≤ i ∧ i < l.length then
    if twoB (l.drop i.toNat) 0 123 45 = true then
      match nestI (l.drop i.toNat) 2 1 with
      | some n => (i + n, 0)
      | none => (0, 60)
    else if (l.drop i.toNat)[0]? = some 45 then (if rowN (l.drop i.toNat) = 0 then (0, 0) else (i + rowN (l.drop i.toNat), 0))
    else (0, 0)
  else (0, 0)
/-- Of which kind a text is as a comment. -/
def kindN (l : List UInt8) : Int :=
  if l = [] ∨ scanN l 0 ≠ ((l.length : Int), 0) then 0
  else if l[0]? = some 45 then 1
  else if 6 ≤ l.length ∧ l[2]? = some 35 ∧ l[l.length - 3]? = some 35 then 3
  else 2
def spB (b : UInt8) : UInt8 := if b = 9 ∨ b = 11 then 32 else b
/-- A line, tidy. -/
def tidyL (l : List UInt8) : List UInt8 := (Lib.trimRightS (l.map spB) blanksL).dropWhile (· == 32)
def linesN (l : List UInt8) : Option (List (List UInt8)) := if kindN l = 0 then none else some ((linesL [] l).map tidyL)
/-- Lines behind the first, moved. -/
def indentN (col : Nat) : List (List UInt8) → List (List UInt8)
  | [] => []
  | x :: r => x :: r.map fun y => if y = [] then [] else List.replicate (col + 2) 32 ++ y
def tidyN (l : List UInt8) (col : Int) : List UInt8 × Int :=
  if col < 1 ∨ 65536 < col then ([], 1)
  else match linesN l with
    | none => ([], 60)
    | some ls => (Lib.join (indentN col.toNat ls) [10], 0)
def sameN (a b : List UInt8) : Bool :=
  match linesN a, linesN b with
  | some l, some m => decide (l = m)
  | _, _ => false
end Go.Proofs.YthhlnahehpigeaaDoor
