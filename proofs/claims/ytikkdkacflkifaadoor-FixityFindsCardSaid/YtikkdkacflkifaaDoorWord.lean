/- DERIVED. PLAIN: words, as lists of bytes. -/
import Derived.Test.YtikkdkacflkifaaDoorSpan
set_option linter.unusedSimpArgs false
set_option linter.unusedVariables false
namespace Go.Proofs.YtikkdkacflkifaaDoor

/-- The reserved words, in order. -/
def wordsL : List (List UInt8) := [[95], [99, 97, 115, 101], [99, 108, 97, 115, 115], [100, 97, 116, 97], [100, 101, 102, 97, 117, 108, 116], [100, 101, 114, 105, 118, 105, 110, 103], [100, 111], [101, 108, 115, 101], [102, 111, 114, 101, 105, 103, 110], [105, 102], [105, 109, 112, 111, 114, 116], [105, 110], [105, 110, 102, 105, 120], [105, 110, 102, 105, 120, 108], [105, 110, 102, 105, 120, 114], [105, 110, 115, 116, 97, 110, 99, 101], [108, 101, 116], [109, 111, 100, 117, 108, 101], [110, 101, 119, 116, 121, 112, 101], [111, 102], [116, 104, 101, 110], [116, 121, 112, 101], [119, 104, 101, 114, 101]]
/-- The reserved operators. -/
def marksL : List (List UInt8) := [[46, 46], [58], [58, 58], [61], [92], [124], [60, 45], [45, 62], [64], [126], [61, 62]]
def resv (l : List UInt8) : Bool := wordsL.contains l
/-- The kind of a row of symbols. -/
def symK (l : List UInt8) : Int := if marksL.contains l then 10 else if l.getD 0 0 = 58 then 6 else 5
/-- May a rune stand within a name? -/
def inName (c : Nat) : Bool := cls c == 2 || cls c == 3 || cls c == 4 || (c : Int) == 39
/-- How many bytes the name has that begins a text. -/
def nameLen (l : List UInt8) : Nat := span inName l
/-- The class of a text's first rune; 0: there is none. -/
def firstC (l : List UInt8) : Int := if l = [] then 0 else cls (dec l).1
/-- The word, not qualified, that begins a text: its kind, and how many bytes it has. -/
def plainW (l : List UInt8) : Int × Nat :=
  if firstC l = 6 then (15, 1)
  else if firstC l = 5 then (symK (l.take (span (isCls 5) l)), span (isCls 5) l)
  else if firstC l = 3 then (2, nameLen l)
  else if firstC l = 2 then ((if resv (l.take (nameLen l)) then 9 else 1), nameLen l)
  else (0, 0)
/-- What a kind becomes behind a great name and a point. -/
def qualK (k : Int) : Int := if k = 1 then 3 else if k = 2 then 4 else if k = 5 then 7 else if k = 6 then 8 else 0

/-- Does a point stand behind so many bytes? -/
def pointAt (l : List UInt8) (n : Nat) : Bool := l.getD n 0 == 46 && decide (n < l.length)
/-- What follows a great name that has so far come to n bytes, of kind k, with a bytes ahead of its last name. -/
def goOn : Nat → List UInt8 → Int → Nat → Nat → Int × Nat × Nat
  | 0, _, k, n, a => (k, n, a)
  | f + 1, l, k, n, a =>
    if (k = 2 ∨ k = 4) ∧ pointAt l n = true ∧ qualK (plainW (l.drop (n + 1))).1 ≠ 0 then
      goOn f l (qualK (plainW (l.drop (n + 1))).1) (n + 1 + (plainW (l.drop (n + 1))).2) (n + 1)
    else (k, n, a)
/-- The word that begins a text: its kind, how many bytes it has, and how many stand ahead of its last name. -/
def scanW (l : List UInt8) : Int × Nat × Nat := goOn l.length l (plainW l).1 (plainW l).2 0

theorem plainW_le (l : List UInt8) : (plainW l).2 ≤ l.length := by
  unfold plainW
  split
  · rename_i h
    have : l ≠ [] := by rintro rfl; simp [firstC] at h
    exact List.length_pos_iff.2 this
  split
  · exact span_le' _ _
  split
  · exact span_le' _ _
  split
  · exact span_le' _ _
  · exact Nat.zero_le _

theorem goOn_end (f : Nat) (l : List UInt8) (k : Int) (n a : Nat) (h : ¬ ((k = 2 ∨ k = 4) ∧ pointAt l n = true ∧ qualK (plainW (l.drop (n + 1))).1 ≠ 0)) : goOn f l k n a = (k, n, a) := by
  cases f with
  | zero => rfl
  | succ f => unfold goOn; rw [if_neg h]
theorem point_lt {l : List UInt8} {n : Nat} (h : pointAt l n = true) : n < l.length := by
  simp only [pointAt, Bool.and_eq_true, decide_eq_true_eq] at h; exact h.2
theorem goOn_more : ∀ (f g : Nat) (l : List UInt8) (k : Int) (n a : Nat), l.length ≤ f + n → l.length ≤ g + n → goOn f l k n a = goOn g l k n a
  | 0, g, l, k, n, a, hf, _ => by
    rw [goOn_end g]; rfl
    rintro ⟨_, h, _⟩
    have := point_lt h
    omega
  | f + 1, 0, l, k, n, a, _, hg => by
    rw [goOn_end (f + 1)]; rfl
    rintro ⟨_, h, _⟩
    have := point_lt h
    omega
  | f + 1, g + 1, l, k, n, a, hf, hg => by
    unfold goOn
    split
    · exact goOn_more f g l _ _ _ (by omega) (by omega)
    · rfl
theorem goOn_step (l : List UInt8) (k : Int) (n a : Nat) (h : (k = 2 ∨ k = 4) ∧ pointAt l n = true ∧ qualK (plainW (l.drop (n + 1))).1 ≠ 0) :
    goOn l.length l k n a = goOn l.length l (qualK (plainW (l.drop (n + 1))).1) (n + 1 + (plainW (l.drop (n + 1))).2) (n + 1) := by
  have hp := point_lt h.2.1
  obtain ⟨m, hm⟩ : ∃ m, l.length = m + 1 := ⟨l.length - 1, by omega⟩
  rw [hm]
  conv => lhs; unfold goOn
  rw [if_pos h]
  exact goOn_more m (m + 1) l _ _ _ (by omega) (by omega)
theorem goOn_le : ∀ (f : Nat) (l : List UInt8) (k : Int) (n a : Nat), n ≤ l.length → (goOn f l k n a).2.1 ≤ l.length
  | 0, _, _, _, _, h => h
  | f + 1, l, k, n, a, h => by
    unfold goOn
    split
    · rename_i hc
      have := point_lt hc.2.1
      have := plainW_le (l.drop (n + 1))
      rw [List.length_drop] at this
      exact goOn_le f l _ _ _ (by omega)
    · exact h
theorem scanW_le (l : List UInt8) : (scanW l).2.1 ≤ l.length := goOn_le _ _ _ _ _ (plainW_le l)

/-- Kind: C2. -/
def kindW (l : List UInt8) : Int := if (scanW l).2.1 = l.length then (scanW l).1 else 0
/-- Scan: C1. -/
def scanAt (l : List UInt8) (i : Int) : Int × Int :=
  if 0 ≤ i ∧ i < l.length then (if (scanW (l.drop i.toNat)).1 = 0 then (0, 0) else ((scanW (l.drop i.toNat)).1, i + (scanW (l.drop i.toNat)).2.1)) else (0, 0)
/-- Split: C3: the bytes of the qualifier and of what stands ahead of the name, and the fault. -/
def splitW (l : List UInt8) : Option (Nat × Nat) :=
  if kindW l = 3 ∨ kindW l = 4 ∨ kindW l = 7 ∨ kindW l = 8 then some ((scanW l).2.2 - 1, (scanW l).2.2)
  else if kindW l = 1 ∨ kindW l = 2 ∨ kindW l = 5 ∨ kindW l = 6 then some (0, 0) else none
/-- Apart: C4. -/
def apartW (a b : List UInt8) : Bool := decide (kindW a ≠ 0) && decide (kindW b ≠ 0) && decide ((scanW (a ++ b)).1 = kindW a ∧ (scanW (a ++ b)).2.1 = a.length)

abbrev qual (k : Int) : Prop := k = 3 ∨ k = 4 ∨ k = 7 ∨ k = 8
theorem plainW_kind (l : List UInt8) : (plainW l).1 = 15 ∨ (plainW l).1 = 10 ∨ (plainW l).1 = 6 ∨ (plainW l).1 = 5 ∨ (plainW l).1 = 2 ∨ (plainW l).1 = 9 ∨ (plainW l).1 = 1 ∨ (plainW l).1 = 0 := by
  unfold plainW
  split
  · exact .inl rfl
  split
  · simp only [symK]
    split
    · simp
    split <;> simp
  split
  · simp
  split
  · simp only
    split <;> simp
  · simp
theorem qualK_qual {k : Int} (h : qualK k ≠ 0) : qual (qualK k) := by
  unfold qualK qual at *
  (repeat' split) <;> simp_all
theorem goOn_ahead : ∀ (f : Nat) (l : List UInt8) (k : Int) (n a : Nat), (qual k → 1 ≤ a ∧ a ≤ n) → (qual (goOn f l k n a).1 → 1 ≤ (goOn f l k n a).2.2 ∧ (goOn f l k n a).2.2 ≤ (goOn f l k n a).2.1)
  | 0, _, _, _, _, h => h
  | f + 1, l, k, n, a, h => by
    unfold goOn
    split
    · exact goOn_ahead f l _ _ _ (fun _ => ⟨by omega, by omega⟩)
    · exact h
theorem scan_ahead (l : List UInt8) (h : qual (scanW l).1) : 1 ≤ (scanW l).2.2 ∧ (scanW l).2.2 ≤ (scanW l).2.1 :=
  goOn_ahead _ _ _ _ _ (fun hq => by have := plainW_kind l; unfold qual at hq; omega) h
end Go.Proofs.YtikkdkacflkifaaDoor
